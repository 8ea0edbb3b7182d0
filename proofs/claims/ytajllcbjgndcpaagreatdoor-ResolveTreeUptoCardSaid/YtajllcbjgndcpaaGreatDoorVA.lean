/- WALKS joined by merge.py: V1, V2, V3, V4, V5, V6, V7, V8, V9, V10, FrameV. -/
import Derived.Test.YtajllcbjgndcpaaGreatDoorY7
import Derived.Test.YtajllcbjgndcpaaGreatDoorVn
import Derived.Deep.CutRange
import Derived.Test.YtajllcbjgndcpaaGreatDoorY6
import Derived.Test.YtajllcbjgndcpaaGreatDoorFrameZ
namespace Go.Proofs.YtajllcbjgndcpaaGreatDoor
open Go.RowKit Go.Maps

/-- A zone with its slice. -/
structure ZV where
  z : Zn.Zone
  a : Option Addr
  cap : Nat
instance : Inhabited ZV := ⟨⟨default, none, 0⟩⟩
def zvL (x : ZV) : List Value := [.string ⟨x.z.origin.toArray⟩, .slice x.a x.z.recs.length x.cap]
theorem zvL_len (x : ZV) : (zvL x).length = 2 := rfl
/-- A list of zones as it lies in memory. -/
structure Zones (B : Nat) (w : World) (v : Value) (zs : List ZV) : Prop where
  row : ∃ (a : Option Addr) (cap : Nat), v = .slice a zs.length cap ∧ zs.length ≤ cap ∧ cap ≤ maxLen ∧
    (zs ≠ [] → ∃ b o, a = some ⟨b, o, none⟩ ∧ b < w.heap.size ∧ (b < B ∨ ∃ cs fr, w.heap[b]? = some (.cells cs 24 fr)) ∧
      ∀ j x, zs[j]? = some x → ∀ i u, (zvL x)[i]? = some u → w.cell? ⟨b, o + j * 2 + i, none⟩ = some u)
  recs : ∀ x ∈ zs, Recs B w (.slice x.a x.z.recs.length x.cap) x.z.recs ∧ ∀ r ∈ x.z.recs, r.data.length ≤ 1048576
theorem Zones.later {B : Nat} {w w' : World} {v : Value} {zs : List ZV} (h : Zones B w v zs) (hb : Below w.heap.size w w') : Zones B w' v zs := by
  refine ⟨?_, fun x hx => ⟨(h.recs x hx).1.later hb, (h.recs x hx).2⟩⟩
  obtain ⟨a, cap, h1, h2, h3, h4⟩ := h.row
  refine ⟨a, cap, h1, h2, h3, fun hn => ?_⟩
  obtain ⟨b, o, h5, h6, h7, h8⟩ := h4 hn
  refine ⟨b, o, h5, Nat.lt_of_lt_of_le h6 hb.size, ?_, fun j r hr i u hu => (World.cell?_of_block (hb.block b h6)).trans (h8 j r hr i u hu)⟩
  rcases h7 with h7 | ⟨cs, fr, h7⟩
  · exact .inl h7
  · exact .inr ⟨cs, fr, (hb.block b h6).trans h7⟩
theorem Zones.at_ {B : Nat} {w : World} {a : Option Addr} {n cap : Nat} {zs : List ZV} (h : Zones B w (.slice a n cap) zs) {k : Nat} {x : ZV} (hx : zs[k]? = some x) :
    ∃ b o, a = some ⟨b, o, none⟩ ∧ b < w.heap.size ∧ w.cell? ⟨b, o + k * 2, none⟩ = some (.string ⟨x.z.origin.toArray⟩) ∧ w.cell? ⟨b, o + k * 2 + 1, none⟩ = some (.slice x.a x.z.recs.length x.cap) := by
  obtain ⟨a', cap', hv, _, _, hc⟩ := h.row
  injection hv with e1 e2 e3
  subst e1 e3
  obtain ⟨b, o, h1, h2, _, h4⟩ := hc (by rintro rfl; simp at hx)
  exact ⟨b, o, h1, h2, h4 k x hx 0 _ rfl, h4 k x hx 1 _ rfl⟩
theorem Zones.val {B : Nat} {w : World} {v : Value} {zs : List ZV} (h : Zones B w v zs) : ∃ a cap, v = .slice a zs.length cap ∧ zs.length ≤ cap ∧ cap ≤ maxLen := by
  obtain ⟨a, cap, h1, h2, h3, -⟩ := h.row
  exact ⟨a, cap, h1, h2, h3⟩
/-- The first zones alone. -/
theorem Zones.take {B : Nat} {w : World} {a : Option Addr} {n cap : Nat} {zs : List ZV} (h : Zones B w (.slice a n cap) zs) {k : Nat} (hk : k ≤ zs.length) : Zones B w (.slice a k cap) (zs.take k) := by
  have hl : (zs.take k).length = k := by rw [List.length_take]; omega
  refine ⟨?_, fun x hx => h.recs x (List.mem_of_mem_take hx)⟩
  obtain ⟨a', cap', hv, h2, h3, h4⟩ := h.row
  injection hv with e1 e2 e3
  subst e1 e3
  refine ⟨a, cap, by rw [hl], by rw [hl]; omega, h3, fun hn => ?_⟩
  obtain ⟨b, o, h5, h6, h7, h8⟩ := h4 (by rintro rfl; simp at hn)
  refine ⟨b, o, h5, h6, h7, fun j x hx i u hu => h8 j x ?_ i u hu⟩
  rw [List.getElem?_take] at hx
  split at hx
  · exact hx
  · cases hx

/-! The closures. -/
def SameEnd (o : Lb.Bs) (x : ZV) (w0 : World) (e : Ending) (w' : World) : Prop := e = .returned (.bool (Vn.sameO o x.z)) ∧ Below w0.heap.size w0 w'
/-- What a test of origins does. -/
def TestsZ (F : FuncId) (cap : Array Value) (o : Lb.Bs) (w : World) : Prop :=
  ∀ (W : World) (x : ZV), Below w.heap.size w W → Calls Tryz.prog F (#[.agg (zvL x).toArray] ++ cap) W (SameEnd o x W)

set_option maxHeartbeats 1600000 in
theorem ask1_any (x : ZV) (b : Nat) (o : Lb.Bs) (w : World) (h : w.cell? ⟨b, 0, none⟩ = some (.string ⟨o.toArray⟩)) :
    Calls Tryz.prog 107 #[.agg (zvL x).toArray, .pointer (some ⟨b, 0, none⟩)] w (SameEnd o x w) := by
  obtain ⟨⟨og, rs⟩, ra, rc⟩ := x
  unfold zvL SameEnd
  have hlt := World.block_lt_of_cell? w _ h
  simp only at hlt
  have hne : b ≠ w.heap.size := by omega
  go_enter Tryz.func107, Tryz.ntmps107
  go_wp2
  go_ret
  exact ⟨by rw [show Vn.sameO o ⟨og, rs⟩ = (og == o) by rw [Bool.eq_iff_iff]; simp [Vn.sameO]]; rfl, (Below.refl _ w).alloc (Nat.le_refl _) _⟩

set_option maxHeartbeats 1600000 in
theorem chk1_any (x : ZV) (b : Nat) (o : Lb.Bs) (w : World) (h : w.cell? ⟨b, 0, none⟩ = some (.string ⟨o.toArray⟩)) :
    Calls Tryz.prog 109 #[.agg (zvL x).toArray, .pointer (some ⟨b, 0, none⟩)] w (SameEnd o x w) := by
  obtain ⟨⟨og, rs⟩, ra, rc⟩ := x
  unfold zvL SameEnd
  have hlt := World.block_lt_of_cell? w _ h
  simp only at hlt
  have hne : b ≠ w.heap.size := by omega
  go_enter Tryz.func109, Tryz.ntmps109
  go_wp2
  go_ret
  exact ⟨by rw [show Vn.sameO o ⟨og, rs⟩ = (og == o) by rw [Bool.eq_iff_iff]; simp [Vn.sameO]]; rfl, (Below.refl _ w).alloc (Nat.le_refl _) _⟩
theorem enters_ask1 : ∀ args w, (callFunc 107 args).run Tryz.prog w = .ok (.enter 107 args) w := fun args w => enters_of Tryz.func107 (by kernel_rfl) rfl args w
theorem enters_chk1 : ∀ args w, (callFunc 109 args).run Tryz.prog w = .ok (.enter 109 args) w := fun args w => enters_of Tryz.func109 (by kernel_rfl) rfl args w
theorem ask1_tests (b : Nat) (o : Lb.Bs) (w : World) (h : w.cell? ⟨b, 0, none⟩ = some (.string ⟨o.toArray⟩)) : TestsZ 107 #[.pointer (some ⟨b, 0, none⟩)] o w :=
  fun W x hB => ask1_any x b o W ((hB.cell (World.block_lt_of_cell? w _ h)).trans h)
theorem chk1_tests (b : Nat) (o : Lb.Bs) (w : World) (h : w.cell? ⟨b, 0, none⟩ = some (.string ⟨o.toArray⟩)) : TestsZ 109 #[.pointer (some ⟨b, 0, none⟩)] o w :=
  fun W x hB => chk1_any x b o W ((hB.cell (World.block_lt_of_cell? w _ h)).trans h)

def idxZ (o : Lb.Bs) (l : List ZV) : Int := match l.findIdx? (fun x => Vn.sameO o x.z) with | some k => (k : Int) | none => -1
theorem idxZ_hit {o : Lb.Bs} {l : List ZV} {k : Nat} {x : ZV} (hx : l[k]? = some x) (hp : Vn.sameO o x.z = true) (h : ∀ j y, j < k → l[j]? = some y → Vn.sameO o y.z = false) : idxZ o l = k := by
  unfold idxZ
  have : l.findIdx? (fun x => Vn.sameO o x.z) = some k := by
    rw [List.findIdx?_eq_some_iff_getElem]
    obtain ⟨hk, rfl⟩ := List.getElem?_eq_some_iff.1 hx
    exact ⟨hk, hp, fun j hj => by simp [h j (l[j]'(by omega)) hj (List.getElem?_eq_getElem _)]⟩
  rw [this]
theorem idxZ_miss {o : Lb.Bs} {l : List ZV} (h : ∀ j y, j < l.length → l[j]? = some y → Vn.sameO o y.z = false) : idxZ o l = -1 := by
  unfold idxZ
  have : l.findIdx? (fun x => Vn.sameO o x.z) = none := by
    rw [List.findIdx?_eq_none_iff]
    intro x hx
    obtain ⟨j, hj⟩ := List.mem_iff_getElem?.1 hx
    exact h j x (List.getElem?_eq_some_iff.1 hj).1 hj
  rw [this]
theorem idxZ_any (o : Lb.Bs) (l : List ZV) : decide (0 ≤ idxZ o l) = (l.map ZV.z).any (Vn.sameO o) := by
  unfold idxZ
  cases h : l.findIdx? (fun x => Vn.sameO o x.z) with
  | none =>
    rw [List.findIdx?_eq_none_iff] at h
    have : (l.map ZV.z).any (Vn.sameO o) = false := by rw [List.any_map, List.any_eq_false]; intro x hx; simp [h x hx]
    rw [this]; rfl
  | some k =>
    rw [List.findIdx?_eq_some_iff_getElem] at h
    obtain ⟨hk, hp, _⟩ := h
    have : (l.map ZV.z).any (Vn.sameO o) = true := by rw [List.any_map]; exact List.any_eq_true.2 ⟨_, List.getElem_mem hk, hp⟩
    rw [this]; simp
theorem idxZ_find (o : Lb.Bs) : ∀ (l : List ZV), (idxZ o l = -1 ∧ (l.map ZV.z).find? (Vn.sameO o) = none) ∨ ∃ k x, idxZ o l = (k : Nat) ∧ l[k]? = some x ∧ (l.map ZV.z).find? (Vn.sameO o) = some x.z := by
  intro l
  unfold idxZ
  cases h : l.findIdx? (fun x => Vn.sameO o x.z) with
  | none =>
    rw [List.findIdx?_eq_none_iff] at h
    refine .inl ⟨rfl, ?_⟩
    rw [List.find?_eq_none]
    intro z hz
    obtain ⟨x, hx, rfl⟩ := List.mem_map.1 hz
    simp [h x hx]
  | some k =>
    rw [List.findIdx?_eq_some_iff_getElem] at h
    obtain ⟨hk, hp, hn⟩ := h
    refine .inr ⟨k, l[k], rfl, List.getElem?_eq_getElem hk, ?_⟩
    rw [List.find?_eq_some_iff_getElem]
    refine ⟨hp, k, by simpa using hk, by simp, fun j hj => ?_⟩
    have := hn j hj
    simpa using this
def NoInv (o : Lb.Bs) (l : List ZV) (w0 : World) (k : Nat) (wr : World) : Prop := (∀ j y, j < k → l[j]? = some y → Vn.sameO o y.z = false) ∧ Below w0.heap.size w0 wr
theorem NoInv.next {o : Lb.Bs} {l : List ZV} {w0 w1 w2 : World} {k : Nat} {x : ZV} (h : NoInv o l w0 k w1) (hB : Below w1.heap.size w1 w2) (hx : l[k]? = some x) (hp : Vn.sameO o x.z = false) : NoInv o l w0 (k + 1) w2 := by
  refine ⟨fun j y hj hy => ?_, h.2.trans (hB.mono h.2.size)⟩
  rcases Nat.lt_or_ge j k with h1 | h1
  · exact h.1 j y h1 hy
  · obtain rfl : j = k := by omega
    rw [hx] at hy
    injection hy with hy
    rw [← hy]; exact hp

set_option maxHeartbeats 3200000 in
set_option maxRecDepth 100000 in
theorem indexZ_any (B F : Nat) (cap : Array Value) (o : Lb.Bs) (a : Option Addr) (cp : Nat) (l : List ZV) (w : World) (enters : ∀ args w, (callFunc F args).run Tryz.prog w = .ok (.enter F args) w)
    (ht : TestsZ F cap o w) (h : Zones B w (.slice a l.length cp) l) :
    Calls Tryz.prog 106 #[.slice a l.length cp, .func (.func F) #[] cap] w (IntEnd (idxZ o l) w) := by
  have hcm : l.length ≤ cp ∧ cp ≤ maxLen := by
    obtain ⟨a', cp', e, h2, h3⟩ := h.val
    injection e with _ _ e3
    subst e3
    exact ⟨h2, h3⟩
  unfold maxLen at hcm
  have Hr := Lib.hid h
  have Ht := Lib.hid ht
  clear h ht
  go_enter Tryz.func106, Tryz.ntmps106
  go_wp2
  go_loopw [8] (fun i wr => ∃ k : Nat, k ≤ l.length ∧ i = .int .i64 k ∧ Hid (NoInv o l w k wr)) (fun i _ => l.length - (intOf i).toNat)
  case atStart => exact ⟨0, Nat.zero_le _, rfl, ⟨fun j _ hj => absurd hj (Nat.not_lt_zero j), Below.refl _ _⟩⟩
  case round =>
    obtain ⟨k, hk, rfl, HI⟩ := hrel
    by_cases hlt : k < l.length
    · obtain ⟨x, hx⟩ : ∃ x, l[k]? = some x := ⟨l[k], List.getElem?_eq_getElem hlt⟩
      obtain ⟨b, p, rfl, hb, c0, c1⟩ := (Hr.out.later HI.out.2).at_ hx
      have hcall := Ht.out wr x HI.out.2
      have Hx := Lib.hid hx
      have hk0 : (0 : Int) ≤ k := by omega
      have hlt' : (k : Int) < l.length := by omega
      clear hx
      unfold SameEnd zvL at hcall
      cases hp : Vn.sameO o x.z with
      | true =>
        rw [hp] at hcall
        have hcall := Lib.hid hcall
        have HE := Lib.hid (idxZ_hit Hx.out hp HI.out.1)
        clear hp
        go_wp2_with (go_at_fn F; refine hcall.out.mono ?_; rintro e w' ⟨rfl, hb'⟩)
        have HB := Lib.hid (HI.out.2.trans (hb'.mono HI.out.2.size))
        go_ret
        exact ⟨by rw [HE.out]; rfl, HB.out⟩
      | false =>
        rw [hp] at hcall
        have hcall := Lib.hid hcall
        have Hp := Lib.hid hp
        clear hp
        go_wp2_with (go_at_fn F; refine hcall.out.mono ?_; rintro e w' ⟨rfl, hb'⟩)
        refine ⟨⟨k + 1, by omega, by go_num, HI.out.next hb' Hx.out Hp.out⟩, by simp [intOf]; omega⟩
    · have hke : k = l.length := by omega
      subst hke
      have HE := Lib.hid (idxZ_miss HI.out.1)
      go_wp2
      go_ret
      exact ⟨by rw [HE.out]; rfl, HI.out.2⟩

set_option maxHeartbeats 1600000 in
theorem containsZ_any (B F : Nat) (cap : Array Value) (o : Lb.Bs) (a : Option Addr) (cp : Nat) (l : List ZV) (w : World) (enters : ∀ args w, (callFunc F args).run Tryz.prog w = .ok (.enter F args) w)
    (ht : TestsZ F cap o w) (h : Zones B w (.slice a l.length cp) l) :
    Calls Tryz.prog 108 #[.slice a l.length cp, .func (.func F) #[] cap] w fun e w' => e = .returned (.bool ((l.map ZV.z).any (Vn.sameO o))) ∧ Below w.heap.size w w' := by
  have HI := Lib.hid (indexZ_any B F cap o a cp l w enters ht h)
  have Ha := Lib.hid (idxZ_any o l)
  clear h
  unfold IntEnd at HI
  generalize idxZ o l = q at *
  go_enter Tryz.func108, Tryz.ntmps108
  go_wp2_with fail
  refine HI.out.mono ?_
  rintro e w1 ⟨rfl, hB⟩
  go_wp2
  go_ret
  exact ⟨by rw [← Ha.out]; rfl, hB⟩
end Go.Proofs.YtajllcbjgndcpaaGreatDoor

namespace Go.Proofs.YtajllcbjgndcpaaGreatDoor
open Go.RowKit Go.Maps

def firstInv (L : List Zn.Zone) (w0 : World) (k : Nat) (wr : World) : Prop := Vn.firstZ L = Vn.firstZ (L.drop k) ∧ Below w0.heap.size w0 wr
def dupInv (L : List Zn.Zone) (w0 : World) (k : Nat) (wr : World) : Prop := Vn.dup L 0 L = Vn.dup L k (L.drop k) ∧ Below w0.heap.size w0 wr
theorem zs_drop {zs : List ZV} {k : Nat} {x : ZV} (h : zs[k]? = some x) : (zs.map ZV.z).drop k = x.z :: (zs.map ZV.z).drop (k + 1) := by
  have h2 : (zs.map ZV.z)[k]? = some x.z := by rw [List.getElem?_map, h]; rfl
  obtain ⟨h1, h3⟩ := List.getElem?_eq_some_iff.1 h2
  rw [List.drop_eq_getElem_cons h1, h3]
theorem first_step {z : Zn.Zone} {l : List Zn.Zone} : Vn.firstZ (z :: l) = if Zn.checkZ z ≠ 0 then Zn.checkZ z else Vn.firstZ l := rfl
theorem dup_step {L : List Zn.Zone} {k : Nat} {z : Zn.Zone} {l : List Zn.Zone} : Vn.dup L k (z :: l) = ((L.take k).any (Vn.sameO z.origin) || Vn.dup L (k + 1) l) := rfl

set_option maxHeartbeats 12800000 in
set_option maxRecDepth 100000 in
theorem vcheck_any (B : Nat) (a : Option Addr) (cap : Nat) (zs : List ZV) (w : World) (henv : EnvZ w) (h : Zones B w (.slice a zs.length cap) zs) :
    Calls Tryz.prog 69 #[.slice a zs.length cap] w (IntEnd (Vn.checkV (zs.map ZV.z)) w) := by
  have hcm : zs.length ≤ cap ∧ cap ≤ maxLen := by
    obtain ⟨a', cp', e, h2, h3⟩ := h.val
    injection e with _ _ e3
    subst e3
    exact ⟨h2, h3⟩
  unfold maxLen at hcm
  unfold IntEnd Vn.checkV
  rw [List.length_map]
  by_cases h0 : zs.length = 0
  · rw [if_pos h0]
    clear h
    go_enter Tryz.func69, Tryz.ntmps69
    go_wp2
    go_ret
    exact ⟨rfl, Below.refl _ _⟩
  rw [if_neg h0]
  by_cases h12 : zs.length > 12
  · rw [if_pos h12]
    clear h
    go_enter Tryz.func69, Tryz.ntmps69
    go_wp2
    go_ret
    exact ⟨rfl, Below.refl _ _⟩
  rw [if_neg h12]
  obtain ⟨G, hG0⟩ : ∃ G, (if Vn.firstZ (zs.map ZV.z) ≠ 0 then Vn.firstZ (zs.map ZV.z) else if ((zs.map ZV.z).headD default).origin ≠ [46] then 3 else if Vn.dup (zs.map ZV.z) 0 (zs.map ZV.z) = true then 6 else 0) = G := ⟨_, rfl⟩
  rw [hG0]
  have HG0 := Lib.hid hG0
  clear hG0
  have HR := Lib.hid h
  have HEnv := Lib.hid henv
  clear h henv
  have h0' : ((zs.length : Int) == 0) = false := by rw [beq_eq_false_iff_ne]; omega
  have h12' : ¬ (12 : Int) < (zs.length : Int) := by omega
  go_enter Tryz.func69, Tryz.ntmps69
  go_wp2
  go_loopw [18] (fun kv wr => ∃ (k : Nat), k ≤ zs.length ∧ kv = .int .i64 k ∧ Hid (firstInv (zs.map ZV.z) w k wr)) (fun kv _ => zs.length - (intOf kv).toNat)
  case atStart => exact ⟨0, Nat.zero_le _, rfl, ⟨rfl, Below.refl _ _⟩⟩
  case round =>
    obtain ⟨k, hk, rfl, HI⟩ := hrel
    by_cases hlt : k < zs.length
    · obtain ⟨x, hx⟩ : ∃ x, zs[k]? = some x := ⟨zs[k], List.getElem?_eq_getElem hlt⟩
      obtain ⟨b, p, rfl, hb, c0, c1⟩ := (HR.out.later HI.out.2).at_ hx
      have hrx := HR.out.recs x (List.mem_of_getElem? hx)
      have hi0 : (0 : Int) ≤ (k : Int) := by omega
      have hi1 : (k : Int) < (zs.length : Int) := by omega
      have hnext := HI.out.1
      rw [zs_drop hx, first_step] at hnext
      have hBr := HI.out.2.alloc HI.out.2.size (.cells #[.string ⟨x.z.origin.toArray⟩, .slice x.a x.z.recs.length x.cap] 24)
      have HC := Lib.hid (zcheck_any B x.z.origin x.a x.cap x.z.recs (wr.alloc (.cells #[.string ⟨x.z.origin.toArray⟩, .slice x.a x.z.recs.length x.cap] 24)) (HEnv.out.later hBr) (hrx.1.later hBr) hrx.2)
      unfold ChkEnd zoneV at HC
      have HBr := Lib.hid hBr
      have Hnext := Lib.hid hnext
      clear hrx hx hnext hBr
      obtain ⟨⟨og, rs⟩, ra, rc⟩ := x
      dsimp only at *
      obtain ⟨q, hq⟩ : ∃ q, Zn.checkZ ⟨og, rs⟩ = q := ⟨_, rfl⟩
      have hn := Hnext.out
      rw [hq] at HC hn
      have Hn := Lib.hid hn
      clear hq hn Hnext
      by_cases hq0 : q = 0
      · have hqb : (q == 0) = true := by rw [beq_iff_eq]; exact hq0
        have hqb2 : (q != 0) = false := by rw [bne, hqb]; rfl
        have hn := Hn.out
        rw [if_neg (by simp [hq0])] at hn
        have Hn2 := Lib.hid hn
        clear hn Hn hq0
        go_wp2_with fail
        refine HC.out.mono ?_
        rintro e w2 ⟨rfl, hB2⟩
        have HBt := Lib.hid (HBr.out.trans (hB2.mono HBr.out.size))
        clear hB2 c0 c1
        go_wp2
        refine ⟨⟨k + 1, by omega, by go_num, ⟨Hn2.out, HBt.out⟩⟩, by simp [intOf]; omega⟩
      · have hqb : (q == 0) = false := by rw [beq_eq_false_iff_ne]; exact hq0
        have hqb2 : (q != 0) = true := by rw [bne, hqb]; rfl
        have hn := Hn.out
        rw [if_pos hq0] at hn
        have hG : G = q := by
          rw [← HG0.out, hn, if_pos hq0]
        have HG := Lib.hid hG
        clear hn Hn hq0 hG
        go_wp2_with fail
        refine HC.out.mono ?_
        rintro e w2 ⟨rfl, hB2⟩
        have HBt := Lib.hid (HBr.out.trans (hB2.mono HBr.out.size))
        clear hB2 c0 c1
        go_wp2
        go_ret
        exact ⟨by rw [HG.out]; rfl, HBt.out⟩
    · obtain rfl : k = zs.length := by omega
      have hf := HI.out.1
      rw [List.drop_of_length_le (by simp)] at hf
      have hf2 : Vn.firstZ (zs.map ZV.z) = 0 := hf
      clear hf
      obtain ⟨x, hx⟩ : ∃ x, zs[0]? = some x := ⟨zs[0], List.getElem?_eq_getElem (by omega)⟩
      have hhead : ((zs.map ZV.z).headD default).origin = x.z.origin := by
        cases zs with
        | nil => simp at h0
        | cons y r => simp at hx; subst hx; rfl
      have hG0 := HG0.out
      rw [hf2, if_neg (by simp), hhead] at hG0
      have hZr := HR.out.later HI.out.2
      have HBl := Lib.hid HI.out.2
      clear HI hlt hk
      obtain ⟨b, p, rfl, hb, c0, c1⟩ := hZr.at_ hx
      rw [Nat.zero_mul, Nat.add_zero] at c0
      have HZr := Lib.hid hZr
      clear hZr hx hhead hf2
      obtain ⟨⟨og, rs⟩, ra, rc⟩ := x
      dsimp only at *
      have hi1 : (0 : Int) < (zs.length : Int) := by omega
      by_cases ho : og = [46]
      · have hob : (og == [46]) = true := by rw [beq_iff_eq]; exact ho
        rw [if_neg (by simp [ho])] at hG0
        have HG1 := Lib.hid hG0
        clear ho hG0 HG0
        go_wp2
        go_loopw [35] (fun kv wx => ∃ (k : Nat), k ≤ zs.length ∧ kv = .int .i64 k ∧ Hid (dupInv (zs.map ZV.z) wr k wx)) (fun kv _ => zs.length - (intOf kv).toNat)
        case atStart => exact ⟨0, Nat.zero_le _, rfl, ⟨rfl, Below.refl _ _⟩⟩
        case round =>
          obtain ⟨k, hk, rfl, HI⟩ := hrel
          by_cases hlt : k < zs.length
          · obtain ⟨x, hx⟩ : ∃ x, zs[k]? = some x := ⟨zs[k], List.getElem?_eq_getElem hlt⟩
            have hcell := (HZr.out.later HI.out.2).at_ hx
            obtain ⟨b', p', hbp, hb2, d0, d1⟩ := hcell
            injection hbp with hbp
            injection hbp with e1 e2
            subst e1 e2
            have hi0 : (0 : Int) ≤ (k : Int) := by omega
            have hi2 : (k : Int) < (zs.length : Int) := by omega
            have hi3 : (k : Int) ≤ (cap : Int) := by omega
            have hnext := HI.out.1
            rw [zs_drop hx, dup_step] at hnext
            have hBa := (Below.refl wr.heap.size wr).alloc (Nat.le_refl _) (.cells #[.string ⟨x.z.origin.toArray⟩, .slice x.a x.z.recs.length x.cap] 24)
            have hBr := HI.out.2.trans (hBa.mono HI.out.2.size)
            have hb3 := (blk_new wr #[.string ⟨x.z.origin.toArray⟩, .slice x.a x.z.recs.length x.cap] 24).cell 0
            have ht := (HZr.out.later hBr).take (Nat.le_of_lt hlt)
            have hl : (zs.take k).length = k := by rw [List.length_take]; omega
            have hcon := containsZ_any B _ _ x.z.origin (some ⟨b, p, none⟩) cap (zs.take k) _ enters_chk1 (chk1_tests wr.heap.size x.z.origin _ hb3) (by rw [hl]; exact ht)
            rw [hl, List.map_take] at hcon
            have HC := Lib.hid hcon
            have HBr := Lib.hid hBr
            have Hnext := Lib.hid hnext
            clear hx hnext hBr hBa hb3 ht hl hcon
            obtain ⟨⟨og2, rs2⟩, ra2, rc2⟩ := x
            dsimp only at *
            obtain ⟨q, hq⟩ : ∃ q, ((zs.map ZV.z).take k).any (Vn.sameO og2) = q := ⟨_, rfl⟩
            have hn := Hnext.out
            rw [hq] at HC hn
            have Hn := Lib.hid hn
            clear hq hn Hnext
            cases q with
            | false =>
              go_wp2_with fail
              refine HC.out.mono ?_
              rintro e w2 ⟨rfl, hB2⟩
              have HBt := Lib.hid (HBr.out.trans (hB2.mono HBr.out.size))
              clear hB2 d0 d1
              go_wp2
              refine ⟨⟨k + 1, by omega, by go_num, ⟨Hn.out, HBt.out⟩⟩, by simp [intOf]; omega⟩
            | true =>
              have hG := HG1.out
              rw [if_pos (show Vn.dup (zs.map ZV.z) 0 (zs.map ZV.z) = true from Hn.out)] at hG
              have HG := Lib.hid hG
              clear hG Hn
              go_wp2_with fail
              refine HC.out.mono ?_
              rintro e w2 ⟨rfl, hB2⟩
              have HBt := Lib.hid (HBr.out.trans (hB2.mono HBr.out.size))
              clear hB2 d0 d1
              go_wp2
              go_ret
              exact ⟨by rw [← HG.out]; rfl, HBl.out.trans (HBt.out.mono HBl.out.size)⟩
          · obtain rfl : k = zs.length := by omega
            have hf := HI.out.1
            rw [List.drop_of_length_le (by simp)] at hf
            have hG := HG1.out
            rw [show Vn.dup (zs.map ZV.z) 0 (zs.map ZV.z) = false from hf, if_neg (by decide)] at hG
            have Hf := Lib.hid hG
            have HBt := Lib.hid HI.out.2
            clear hf HI hG
            go_wp2
            go_ret
            exact ⟨by rw [← Hf.out]; rfl, HBl.out.trans (HBt.out.mono HBl.out.size)⟩
      · have hob : (og == [46]) = false := by rw [beq_eq_false_iff_ne]; exact ho
        rw [if_pos ho] at hG0
        have HG1 := Lib.hid hG0
        clear ho hG0 HG0
        go_wp2
        go_ret
        exact ⟨by rw [← HG1.out]; rfl, HBl.out⟩

set_option maxHeartbeats 3200000 in
set_option maxRecDepth 100000 in
theorem question_any (s : Lb.Bs) (kd : Int) (w : World) (henv : EnvZ w) : Calls Tryz.prog 72 #[.string ⟨s.toArray⟩, .int .i64 kd] w (IntEnd (Vn.question s kd) w) := by
  have HC := Lib.hid (show Calls Tryz.prog 15 #[.string ⟨s.toArray⟩] w fun e w' => e = .returned (.int .i64 (Lb.check s)) ∧ Below _ _ w' from check_any ⟨s.toArray⟩ _ henv.env)
  have HW := Lib.hid (fun W => (show Calls Tryz.prog 36 #[.string ⟨s.toArray⟩, .string ⟨#[42]⟩] W fun e w' => e = .returned (.bool (Zn.star s)) ∧ W = w' from star_any ⟨s.toArray⟩ W))
  unfold IntEnd Vn.question
  generalize Lb.check s = q at *
  generalize Zn.star s = st at *
  clear henv
  by_cases hq : q = 0
  · have hqb : (q == 0) = true := by rw [beq_iff_eq]; exact hq
    have hqb2 : (q != 0) = false := by rw [bne, hqb]; rfl
    rw [if_neg (by simp [hq])]
    clear hq
    cases st with
    | true =>
      rw [if_pos rfl]
      go_enter Tryz.func72, Tryz.ntmps72
      go_wp2_with fail
      refine HC.out.mono ?_
      rintro e w1 ⟨rfl, hB⟩
      have HB := Lib.hid hB
      clear hB
      go_wp2_with fail
      refine (HW.out w1).mono ?_
      rintro e w2 ⟨rfl, rfl⟩
      go_wp2
      go_ret
      exact ⟨rfl, HB.out⟩
    | false =>
      rw [if_neg (by decide)]
      have hcases : kd < 1 ∨ (¬ kd < 1 ∧ kd > 5) ∨ (¬ kd < 1 ∧ ¬ kd > 5) := by omega
      rcases hcases with hc | ⟨hc, hd⟩ | ⟨hc, hd⟩
      · rw [if_pos (.inl hc)]
        go_enter Tryz.func72, Tryz.ntmps72
        go_wp2_with fail
        refine HC.out.mono ?_
        rintro e w1 ⟨rfl, hB⟩
        have HB := Lib.hid hB
        clear hB
        go_wp2_with fail
        refine (HW.out w1).mono ?_
        rintro e w2 ⟨rfl, rfl⟩
        go_wp2
        go_ret
        exact ⟨rfl, HB.out⟩
      · rw [if_pos (.inr hd)]
        go_enter Tryz.func72, Tryz.ntmps72
        go_wp2_with fail
        refine HC.out.mono ?_
        rintro e w1 ⟨rfl, hB⟩
        have HB := Lib.hid hB
        clear hB
        go_wp2_with fail
        refine (HW.out w1).mono ?_
        rintro e w2 ⟨rfl, rfl⟩
        go_wp2
        go_ret
        exact ⟨rfl, HB.out⟩
      · rw [if_neg (by omega)]
        go_enter Tryz.func72, Tryz.ntmps72
        go_wp2_with fail
        refine HC.out.mono ?_
        rintro e w1 ⟨rfl, hB⟩
        have HB := Lib.hid hB
        clear hB
        go_wp2_with fail
        refine (HW.out w1).mono ?_
        rintro e w2 ⟨rfl, rfl⟩
        go_wp2
        go_ret
        exact ⟨rfl, HB.out⟩
  · have hqb : (q == 0) = false := by rw [beq_eq_false_iff_ne]; exact hq
    have hqb2 : (q != 0) = true := by rw [bne, hqb]; rfl
    rw [if_pos hq]
    clear hq
    go_enter Tryz.func72, Tryz.ntmps72
    go_wp2_with fail
    refine HC.out.mono ?_
    rintro e w1 ⟨rfl, hB⟩
    have HB := Lib.hid hB
    clear hB
    go_wp2
    go_ret
    exact ⟨rfl, HB.out⟩

/-- The fault of a question put to a tree. -/
def checkQ (zs : List Zn.Zone) (s : Lb.Bs) (kd : Int) : Int := if Vn.checkV zs ≠ 0 then Vn.checkV zs else Vn.question s kd
set_option maxHeartbeats 3200000 in
theorem checkQ_any (B : Nat) (a : Option Addr) (cap : Nat) (zs : List ZV) (s : Lb.Bs) (kd : Int) (w : World) (henv : EnvZ w) (h : Zones B w (.slice a zs.length cap) zs) :
    Calls Tryz.prog 63 #[.slice a zs.length cap, .string ⟨s.toArray⟩, .int .i64 kd] w (IntEnd (checkQ (zs.map ZV.z) s kd) w) := by
  have HC := Lib.hid (vcheck_any B a cap zs w henv h)
  have HQ := Lib.hid (fun W (hW : Below w.heap.size w W) => question_any s kd W (henv.later hW))
  unfold IntEnd at *
  unfold checkQ
  generalize Vn.checkV (zs.map ZV.z) = q at *
  generalize Vn.question s kd = qq at *
  clear henv h
  by_cases hq : q = 0
  · have hqb : (q == 0) = true := by rw [beq_iff_eq]; exact hq
    have hqb2 : (q != 0) = false := by rw [bne, hqb]; rfl
    rw [if_neg (by simp [hq])]
    clear hq
    go_enter Tryz.func63, Tryz.ntmps63
    go_wp2_with fail
    refine HC.out.mono ?_
    rintro e w1 ⟨rfl, hB⟩
    have HB := Lib.hid hB
    clear hB
    go_wp2_with fail
    refine (HQ.out w1 HB.out).mono ?_
    rintro e w2 ⟨rfl, hB2⟩
    have HB2 := Lib.hid (HB.out.trans (hB2.mono HB.out.size))
    clear hB2
    go_wp2
    go_ret
    exact ⟨rfl, HB2.out⟩
  · have hqb : (q == 0) = false := by rw [beq_eq_false_iff_ne]; exact hq
    have hqb2 : (q != 0) = true := by rw [bne, hqb]; rfl
    rw [if_pos hq]
    clear hq
    go_enter Tryz.func63, Tryz.ntmps63
    go_wp2_with fail
    refine HC.out.mono ?_
    rintro e w1 ⟨rfl, hB⟩
    have HB := Lib.hid hB
    clear hB
    go_wp2
    go_ret
    exact ⟨rfl, HB.out⟩
end Go.Proofs.YtajllcbjgndcpaaGreatDoor

namespace Go.Proofs.YtajllcbjgndcpaaGreatDoor
open Go.RowKit Go.Maps

/-- What a call on an asker leaves. -/
structure Fq (B pa pb : Nat) (ak : Value) (w w' : World) : Prop where
  below : Below B w w'
  kept : ∀ k, k < w.heap.size → k ≠ pa → k ≠ pb → ak.ownBlock ≠ some k → (∀ cs fr, w.heap[k]? ≠ some (.cells cs 161 fr)) → w'.heap[k]? = w.heap[k]?
theorem Fq.refl (B pa pb : Nat) (ak : Value) (w : World) : Fq B pa pb ak w w := ⟨Below.refl _ _, fun _ _ _ _ _ _ => rfl⟩
/-- The asked zones' row may be another one in the second part, if it is the first one or a new one. -/
theorem Fq.trans {B pa pb : Nat} {ak ak' : Value} {a b c : World} (h : Fq B pa pb ak a b) (h' : Fq B pa pb ak' b c) (ho : ∀ g, ak'.ownBlock = some g → ak.ownBlock = some g ∨ a.heap.size ≤ g) : Fq B pa pb ak a c :=
  ⟨h.below.trans h'.below, fun k hk hp hq hn ht => by
    have e := h.kept k hk hp hq hn ht
    rw [h'.kept k (Nat.lt_of_lt_of_le hk h.below.size) hp hq ?_ (by rw [e]; exact ht), e]
    intro e2
    rcases ho k e2 with e3 | e3
    · exact hn e3
    · omega⟩
theorem Fq.later {B pa pb : Nat} {ak : Value} {a b c : World} (h : Fq B pa pb ak a b) (hB : Below b.heap.size b c) (hb : B ≤ b.heap.size) : Fq B pa pb ak a c :=
  ⟨h.below.trans (hB.mono hb), fun k hk hp hq hn ht => (hB.block k (Nat.lt_of_lt_of_le hk h.below.size)).trans (h.kept k hk hp hq hn ht)⟩
/-- A block of another kind than what the call changes. -/
theorem Fq.obj {B pa pb : Nat} {ak : Value} {w w' : World} (h : Fq B pa pb ak w w') {k : Nat} {o : Obj} (hk : w.heap[k]? = some o) (hp : k ≠ pa) (hq : k ≠ pb) (hn : ak.ownBlock ≠ some k) (ht : ∀ cs fr, o ≠ .cells cs 161 fr) : w'.heap[k]? = some o := by
  refine (h.kept k (Array.getElem?_eq_some_iff.1 hk).1 hp hq hn fun cs fr e => ?_).trans hk
  rw [hk] at e
  injection e with e
  exact ht cs fr e
theorem RowS.far {B : Nat} {w : World} {v : Value} {l : List Lb.Bs} (h : RowS B w v l) {q : Nat} {cs : Array Value} {T : TypeId} {fr : Nat × Nat} (hq : w.heap[q]? = some (.cells cs T fr)) (hT : T ≠ 9) : v.ownBlock ≠ some q := by
  intro e
  rcases h.2 with ⟨rfl, _⟩ | ⟨g, cap, cur, rfl, _, hg, _⟩
  · cases e
  · injection e with e
    subst e
    rw [hg] at hq
    injection hq with hq
    injection hq with _ h2 _
    exact hT h2.symm
theorem RowS.lt {B : Nat} {w : World} {v : Value} {l : List Lb.Bs} (h : RowS B w v l) (k : Nat) (hk : v.ownBlock = some k) : k < w.heap.size := by
  rcases h.2 with ⟨rfl, _⟩ | ⟨g, cap, cur, rfl, _, hg, _⟩
  · cases hk
  · injection hk with hk; subst hk; exact (Array.getElem?_eq_some_iff.1 hg).1
theorem RowS.mono {B B' : Nat} {w : World} {v : Value} {l : List Lb.Bs} (h : RowS B w v l) (hB : B' ≤ B) : RowS B' w v l := by
  refine ⟨h.1, ?_⟩
  rcases h.2 with h2 | ⟨g, cap, cur, h2, h3, h5⟩
  · exact .inl h2
  · exact .inr ⟨g, cap, cur, h2, Nat.le_trans hB h3, h5⟩
theorem RowS.kept {B : Nat} {w w' : World} {v : Value} {l : List Lb.Bs} (h : RowS B w v l) (hk : ∀ g, v.ownBlock = some g → w'.heap[g]? = w.heap[g]?) : RowS B w' v l := by
  refine ⟨h.1, ?_⟩
  rcases h.2 with h2 | ⟨g, cap, cur, rfl, h3, h4, h5⟩
  · exact .inl h2
  · exact .inr ⟨g, cap, cur, rfl, h3, (hk g rfl).trans h4, h5⟩
theorem RowR.kept {B : Nat} {w w' : World} {v : Value} {l : List Cb.Rec} (h : RowR B w v l) (hk : ∀ g, v.ownBlock = some g → w'.heap[g]? = w.heap[g]?) : RowR B w' v l := by
  refine ⟨h.1, ?_⟩
  rcases h.2 with h2 | ⟨g, cap, cur, rfl, h3, h4, h5⟩
  · exact .inl h2
  · exact .inr ⟨g, cap, cur, rfl, h3, (hk g rfl).trans h4, h5⟩
theorem RowS.snoc {B : Nat} {w : World} {v : Value} {l : List Lb.Bs} {x : Lb.Bs} (h : w.ownsRow B 9 1 v (l.length + 1) (strV l ++ [.string ⟨x.toArray⟩])) : RowS B w v (l ++ [x]) := by
  unfold RowS
  rw [List.length_append, show strV (l ++ [x]) = strV l ++ [.string ⟨x.toArray⟩] by simp [strV]]
  exact h
/-- The records of the zones are no rows that a call on an asker changes. -/
theorem Recs.fq {B pa pb : Nat} {ak : Value} {w w' : World} {v : Value} {l : List Cb.Rec} (h : Recs B w v l) (hf : Fq B pa pb ak w w') (hp : ∀ cs fr, w.heap[pa]? ≠ some (.cells cs 43 fr)) (hq : ∀ cs fr, w.heap[pb]? ≠ some (.cells cs 43 fr))
    {m : List Lb.Bs} (hr : RowS B w ak m) : Recs B w' v l := by
  obtain ⟨a, cap, h1, h2, h3, h4⟩ := h
  refine ⟨a, cap, h1, h2, h3, fun hn => ?_⟩
  obtain ⟨b, o, h5, h6, h7, h8⟩ := h4 hn
  have hblk : w'.heap[b]? = w.heap[b]? := by
    rcases h7 with h7 | ⟨cs, fr, h7⟩
    · exact hf.below.block b h7
    · refine hf.kept b h6 ?_ ?_ (hr.far h7 (by decide)) ?_
      · rintro rfl; exact hp cs fr h7
      · rintro rfl; exact hq cs fr h7
      · intro cs' fr' e; rw [h7] at e; injection e with e; injection e with _ e; exact absurd e (by decide)
  refine ⟨b, o, h5, Nat.lt_of_lt_of_le h6 hf.below.size, ?_, fun j r hr i u hu => ?_⟩
  · rcases h7 with h7 | ⟨cs, fr, h7⟩
    · exact .inl h7
    · exact .inr ⟨cs, fr, hblk.trans h7⟩
  · exact (World.cell?_of_block hblk).trans (h8 j r hr i u hu)
theorem Zones.fq {B pa pb : Nat} {ak : Value} {w w' : World} {v : Value} {zs : List ZV} (h : Zones B w v zs) (hf : Fq B pa pb ak w w') {ca : Array Value} (hp : Blk w pa ca 107) (hq : ∀ cs T fr, w.heap[pb]? = some (.cells cs T fr) → T ≠ 43 ∧ T ≠ 24)
    {m : List Lb.Bs} (hr : RowS B w ak m) : Zones B w' v zs := by
  have hpa : ∀ cs T fr, w.heap[pa]? = some (.cells cs T fr) → T = 107 := fun cs T fr e => (hp.uniq e).2.symm
  refine ⟨?_, fun x hx => ⟨(h.recs x hx).1.fq hf (fun cs fr e => absurd (hpa _ _ _ e) (by decide)) (fun cs fr e => (hq _ _ _ e).1 rfl) hr, (h.recs x hx).2⟩⟩
  obtain ⟨a, cap, h1, h2, h3, h4⟩ := h.row
  refine ⟨a, cap, h1, h2, h3, fun hn => ?_⟩
  obtain ⟨b, o, h5, h6, h7, h8⟩ := h4 hn
  have hblk : w'.heap[b]? = w.heap[b]? := by
    rcases h7 with h7 | ⟨cs, fr, h7⟩
    · exact hf.below.block b h7
    · refine hf.kept b h6 ?_ ?_ (hr.far h7 (by decide)) ?_
      · rintro rfl; exact absurd (hpa _ _ _ h7) (by decide)
      · rintro rfl; exact (hq _ _ _ h7).2 rfl
      · intro cs' fr' e; rw [h7] at e; injection e with e; injection e with _ e; exact absurd e (by decide)
  refine ⟨b, o, h5, Nat.lt_of_lt_of_le h6 hf.below.size, ?_, fun j r hr i u hu => ?_⟩
  · rcases h7 with h7 | ⟨cs, fr, h7⟩
    · exact .inl h7
    · exact .inr ⟨cs, fr, hblk.trans h7⟩
  · exact (World.cell?_of_block hblk).trans (h8 j r hr i u hu)

def zeroRep : Array Value := #[.int .i64 0, .slice none 0 0, .slice none 0 0, .slice none 0 0, .int .i64 0]
/-- The memory of ask in its loop. -/
structure AskSt (B pa pb q6 q8 : Nat) (w0 : World) (ak0 zsl c al rs : Value) (y : ZV) (ak : Value) (asked : List Lb.Bs) (wr : World) : Prop where
  pab : Blk wr pa #[zsl, c, al, rs, ak] 107
  zb : Blk wr q8 (zvL y).toArray 24
  rb : Blk wr q6 zeroRep 39
  row : RowS B wr ak asked
  fq : Fq B pa pb ak0 w0 wr
  own : ∀ g, ak.ownBlock = some g → ak0.ownBlock = some g ∨ w0.heap.size ≤ g
  lo : B ≤ w0.heap.size ∧ B ≤ pa ∧ w0.heap.size ≤ q6 ∧ w0.heap.size ≤ q8
section
variable {B pa pb q6 q8 : Nat} {w0 : World} {ak0 zsl c al rs : Value} {y : ZV} {ak : Value} {asked : List Lb.Bs} {wr w' : World}
theorem AskSt.later (h : AskSt B pa pb q6 q8 w0 ak0 zsl c al rs y ak asked wr) (hB : Below wr.heap.size wr w') : AskSt B pa pb q6 q8 w0 ak0 zsl c al rs y ak asked w' :=
  ⟨h.pab.later hB, h.zb.later hB, h.rb.later hB, h.row.later hB, h.fq.later hB (Nat.le_trans h.lo.1 h.fq.below.size), h.own, h.lo⟩
/-- A zone more is asked. -/
theorem AskSt.push (h : AskSt B pa pb q6 q8 w0 ak0 zsl c al rs y ak asked wr) {x : Lb.Bs} {g n cap : Nat} (hrow : w'.ownsRow B 9 1 (.slice (some ⟨g, 0, none⟩) n cap) (asked.length + 1) (strV asked ++ [.string ⟨x.toArray⟩]))
    (hg : wr.grownBy w' ak.ownBlock) (hat : ak.ownBlock = some g ∨ wr.heap.size ≤ g) : AskSt B pa pb q6 q8 w0 ak0 zsl c al rs y (.slice (some ⟨g, 0, none⟩) n cap) (asked ++ [x]) (w'.setCell ⟨pa, 4, none⟩ (.slice (some ⟨g, 0, none⟩) n cap)) := by
  have hs := RowS.snoc hrow
  have hpa : Blk w' pa #[zsl, c, al, rs, ak] 107 := h.pab.grown hg (h.row.far h.pab (by decide))
  have hzb : Blk w' q8 (zvL y).toArray 24 := h.zb.grown hg (h.row.far h.zb (by decide))
  have hrb : Blk w' q6 zeroRep 39 := h.rb.grown hg (h.row.far h.rb (by decide))
  have hne8 : q8 ≠ pa := by rintro rfl; exact absurd (hzb.uniq hpa).2 (by decide)
  have hne6 : q6 ≠ pa := by rintro rfl; exact absurd (hrb.uniq hpa).2 (by decide)
  have hgpa : g ≠ pa := by rintro rfl; exact absurd rfl (hs.far hpa (by decide))
  have hBw : B ≤ wr.heap.size := Nat.le_trans h.lo.1 h.fq.below.size
  refine ⟨?_, hzb.setOther hne8 _, hrb.setOther hne6 _, ?_, ⟨?_, ?_⟩, ?_, h.lo⟩
  · have := hpa.set (j := 4) (.slice (some ⟨g, 0, none⟩) n cap)
    simpa using this
  · refine hs.kept fun k hk => ?_
    injection hk with hk
    subst hk
    exact Below.heap_setCell _ _ _ _ hgpa
  · exact (h.fq.below.grown hg hBw (fun k hk => h.row.own k hk)).setCell (p := ⟨pa, 4, none⟩) h.lo.2.1 _
  · intro k hk hp hq hn ht
    have e := h.fq.kept k hk hp hq hn ht
    have hk2 := Nat.lt_of_lt_of_le hk h.fq.below.size
    rw [Below.heap_setCell _ _ _ _ hp, hg.block k hk2 ?_, e]
    intro e2
    rcases h.own k e2.symm with e3 | e3
    · exact hn e3
    · omega
  · intro k hk
    injection hk with hk
    subst hk
    rcases hat with e | e
    · exact h.own _ e
    · exact .inr (Nat.le_trans h.fq.below.size e)
/-- The next zone. -/
theorem AskSt.move (h : AskSt B pa pb q6 q8 w0 ak0 zsl c al rs y ak asked wr) (x : ZV) :
    AskSt B pa pb q6 q8 w0 ak0 zsl c al rs x ak asked ((wr.setCell ⟨q8, 0, none⟩ (.string ⟨x.z.origin.toArray⟩)).setCell ⟨q8, 1, none⟩ (.slice x.a x.z.recs.length x.cap)) := by
  have hne8 : q8 ≠ pa := by rintro rfl; exact absurd (h.zb.uniq h.pab).2 (by decide)
  have hne6 : q8 ≠ q6 := by rintro rfl; exact absurd (h.zb.uniq h.rb).2 (by decide)
  have hB8 : B ≤ q8 := Nat.le_trans h.lo.1 h.lo.2.2.2
  refine ⟨(h.pab.setOther (Ne.symm hne8) _).setOther (Ne.symm hne8) _, ?_, (h.rb.setOther (Ne.symm hne6) _).setOther (Ne.symm hne6) _, ?_, ⟨?_, ?_⟩, h.own, h.lo⟩
  · have := (h.zb.set (j := 0) (.string ⟨x.z.origin.toArray⟩)).set (j := 1) (.slice x.a x.z.recs.length x.cap)
    simpa [zvL] using this
  · refine h.row.kept fun k hk => ?_
    have hk8 : k ≠ q8 := by rintro rfl; exact h.row.far h.zb (by decide) hk
    rw [Below.heap_setCell _ _ _ _ hk8, Below.heap_setCell _ _ _ _ hk8]
  · exact (h.fq.below.setCell (p := ⟨q8, 0, none⟩) hB8 _).setCell (p := ⟨q8, 1, none⟩) hB8 _
  · intro k hk hp hq hn ht
    have hk8 : k ≠ q8 := by have := h.lo.2.2.2; omega
    rw [Below.heap_setCell _ _ _ _ hk8, Below.heap_setCell _ _ _ _ hk8]
    exact h.fq.kept k hk hp hq hn ht
end
/-- What ask leaves. -/
def AskEnd (t : Vn.Told) (B pa pb : Nat) (ak0 zsl c al rs : Value) (asked : List Lb.Bs) (w0 : World) (e : Ending) (w' : World) : Prop :=
  ∃ v ak', e = .returned (.tuple #[v, .int .i64 t.1.2]) ∧ RepR w0.heap.size w' v t.1.1 ∧ Blk w' pa #[zsl, c, al, rs, ak'] 107 ∧ RowS B w' ak' (asked ++ t.2) ∧ Fq B pa pb ak0 w0 w' ∧ (∀ g, ak'.ownBlock = some g → ak0.ownBlock = some g ∨ w0.heap.size ≤ g)
/-- The answer lies in q6: the end of the loop. -/
theorem AskSt.done {B pa pb q6 q8 : Nat} {w0 : World} {ak0 zsl c al rs : Value} {y : ZV} {ak : Value} {asked : List Lb.Bs} {wr : World} (h : AskSt B pa pb q6 q8 w0 ak0 zsl c al rs y ak asked wr) {v0 v1 v2 v3 v4 : Value} :
    Blk (five wr q6 v0 v1 v2 v3 v4) q6 #[v0, v1, v2, v3, v4] 39 ∧ Blk (five wr q6 v0 v1 v2 v3 v4) pa #[zsl, c, al, rs, ak] 107 ∧ RowS B (five wr q6 v0 v1 v2 v3 v4) ak asked ∧ Fq B pa pb ak0 w0 (five wr q6 v0 v1 v2 v3 v4) := by
  have hne6 : q6 ≠ pa := by rintro rfl; exact absurd (h.rb.uniq h.pab).2 (by decide)
  have hB6 : B ≤ q6 := Nat.le_trans h.lo.1 h.lo.2.2.1
  have hother : ∀ k, k ≠ q6 → (five wr q6 v0 v1 v2 v3 v4).heap[k]? = wr.heap[k]? := fun k hk => by
    unfold five
    rw [Below.heap_setCell _ _ _ _ hk, Below.heap_setCell _ _ _ _ hk, Below.heap_setCell _ _ _ _ hk, Below.heap_setCell _ _ _ _ hk, Below.heap_setCell _ _ _ _ hk]
  refine ⟨five_blk h.rb, (hother pa (Ne.symm hne6)).trans h.pab, h.row.kept fun k hk => hother k ?_, ⟨five_lo h.fq.below hB6, ?_⟩⟩
  · rintro rfl; exact h.row.far h.rb (by decide) hk
  · intro k hk hp hq hn ht
    have hk6 : k ≠ q6 := by have := h.lo.2.2.1; omega
    exact (hother k hk6).trans (h.fq.kept k hk hp hq hn ht)
end Go.Proofs.YtajllcbjgndcpaaGreatDoor

namespace Go.Proofs.YtajllcbjgndcpaaGreatDoor
open Go.RowKit Go.Maps

def oLen (w : World) (q : Nat) : Nat := match w.cell? ⟨q, 0, none⟩ with | some (.string s) => s.size | _ => 0
theorem oLen_blk {w : World} {q : Nat} {y : ZV} {T : TypeId} (h : Blk w q (zvL y).toArray T) : oLen w q = y.z.origin.length := by
  unfold oLen
  rw [h.cell 0]
  exact size_of _
/-- Where the loop stands: what is still to be asked, from zone y on. -/
structure AskTo (L : List Zn.Zone) (nm : Lb.Bs) (kd : Int) (t : Vn.Told) (a0 : List Lb.Bs) (y : Zn.Zone) (asked : List Lb.Bs) (f : Nat) : Prop where
  mem : y ∈ L
  one : t.1 = (Vn.askF L nm kd f y).1
  two : a0 ++ t.2 = asked ++ (Vn.askF L nm kd f y).2
  fuel : 80 < f + y.origin.length
  few : asked.length + f ≤ a0.length + 100
section
variable {L : List Zn.Zone} {nm : Lb.Bs} {kd : Int} {t : Vn.Told} {a0 : List Lb.Bs} {y : Zn.Zone} {asked : List Lb.Bs} {f : Nat}
theorem AskTo.pos (h : AskTo L nm kd t a0 y asked f) (ht : Vn.Tree L) : y.origin.length ≤ 80 ∧ 1 ≤ f := by
  have := (Vn.name_len (Rn.checkZ_ok (ht.fit y h.mem)).fit).2
  have := h.fuel
  exact ⟨by assumption, by omega⟩
theorem AskTo.stop (h : AskTo L nm kd t a0 y asked (f + 1)) (hs : (Rn.answer y nm kd).2 ≠ 0 ∨ (Rn.answer y nm kd).1.code ≠ 3) : t.1 = Rn.answer y nm kd ∧ a0 ++ t.2 = asked ++ [y.origin] := by
  have h1 := h.one
  have h2 := h.two
  unfold Vn.askF at h1 h2
  rw [if_pos hs] at h1 h2
  exact ⟨h1, h2⟩
theorem AskTo.none (h : AskTo L nm kd t a0 y asked (f + 1)) (h2 : (Rn.answer y nm kd).2 = 0) (h3 : (Rn.answer y nm kd).1.code = 3) (hf : L.find? (Vn.sameO (Vn.cutOf (Rn.answer y nm kd).1)) = none) : t.1 = ({}, 4) ∧ a0 ++ t.2 = asked ++ [y.origin] := by
  have h4 := h.one
  have h5 := h.two
  unfold Vn.askF at h4 h5
  rw [if_neg (by rintro (e | e) <;> exact e (by assumption)), hf] at h4 h5
  exact ⟨h4, h5⟩
theorem AskTo.next (h : AskTo L nm kd t a0 y asked (f + 1)) (ht : Vn.Tree L) (h2 : (Rn.answer y nm kd).2 = 0) (h3 : (Rn.answer y nm kd).1.code = 3) {x : Zn.Zone} (hf : L.find? (Vn.sameO (Vn.cutOf (Rn.answer y nm kd).1)) = some x) :
    AskTo L nm kd t a0 x (asked ++ [y.origin]) f ∧ y.origin.length < x.origin.length ∧ x.origin.length ≤ 80 := by
  have h4 := h.one
  have h5 := h.two
  unfold Vn.askF at h4 h5
  rw [if_neg (by rintro (e | e) <;> exact e (by assumption)), hf] at h4 h5
  obtain ⟨hm, ho⟩ := Vn.find_same hf
  have hl := Vn.refer_longer h2 h3
  rw [← ho] at hl
  refine ⟨⟨hm, h4, by rw [h5]; simp, ?_, ?_⟩, hl, (Vn.name_len (Rn.checkZ_ok (ht.fit x hm)).fit).2⟩
  · have := h.fuel; omega
  · have := h.few; simp; omega
theorem servers_some (h2 : (Rn.answer y nm kd).2 = 0) (h3 : (Rn.answer y nm kd).1.code = 3) : ∃ x S, (Rn.answer y nm kd).1.servers = x :: S ∧ x.name = Vn.cutOf (Rn.answer y nm kd).1 := by
  rcases Vn.answer_split y nm kd with ⟨h, -⟩ | ⟨h, hc⟩
  · exact absurd h2 h
  · rw [h] at h3 ⊢
    obtain ⟨c, hc', hb'⟩ := Rn.refer_code h3
    obtain ⟨x, S, hx⟩ := List.exists_cons_of_ne_nil (Rn.refer_servers hc')
    dsimp only
    rw [hb']
    exact ⟨x, S, hx, by unfold Vn.cutOf; rw [hx]; rfl⟩
end
def AskInv (B pa pb q6 q8 : Nat) (w0 : World) (ak0 zsl c al rs : Value) (L : List Zn.Zone) (zs : List ZV) (nm : Lb.Bs) (kd : Int) (t : Vn.Told) (a0 : List Lb.Bs) (wr : World) : Prop :=
  ∃ y ak asked f, AskSt B pa pb q6 q8 w0 ak0 zsl c al rs y ak asked wr ∧ y ∈ zs ∧ AskTo L nm kd t a0 y.z asked f

def AskMid (B pa pb q6 q8 : Nat) (w0 : World) (ak0 zsl c al rs : Value) (y : ZV) (asked : List Lb.Bs) (o : Lb.Bs) (wr : World) : Prop :=
  ∃ gg cap1, AskSt B pa pb q6 q8 w0 ak0 zsl c al rs y (.slice (some ⟨gg, 0, none⟩) (asked.length + 1) cap1) (asked ++ [o]) wr
set_option maxHeartbeats 12800000 in
set_option maxRecDepth 100000 in
theorem ask_any (B pa pb : Nat) (ak0 c al rs : Value) (za : Option Addr) (zc : Nat) (zs : List ZV) (a0 : List Lb.Bs) (nm : Lb.Bs) (kd : Int) (w0 : World) (henv : ∀ W, Below B w0 W → EnvZ W) (hT : Vn.Tree (zs.map ZV.z))
    (hZ : Zones B w0 (.slice za zs.length zc) zs) (hp : Blk w0 pa #[.slice za zs.length zc, c, al, rs, ak0] 107) (hpb : ∀ cs T fr, w0.heap[pb]? = some (.cells cs T fr) → T ≠ 43 ∧ T ≠ 24)
    (hpa : B ≤ pa) (hB0 : B ≤ w0.heap.size) (hrow : RowS B w0 ak0 a0) (hfew : a0.length ≤ 100000) :
    Calls Tryz.prog 66 #[.pointer (some ⟨pa, 0, none⟩), .string ⟨nm.toArray⟩, .int .i64 kd] w0 (AskEnd (Vn.ask (zs.map ZV.z) nm kd) B pa pb ak0 (.slice za zs.length zc) c al rs a0 w0) := by
  have HZ := Lib.hid (fun W (hW : Fq B pa pb ak0 w0 W) => hZ.fq hW hp hpb hrow)
  have HE := Lib.hid henv
  have HT := Lib.hid hT
  have hne : zs ≠ [] := by rintro rfl; exact hT.some rfl
  obtain ⟨y0, hy0⟩ : ∃ y, zs[0]? = some y := ⟨zs[0]'(List.length_pos_iff.2 hne), List.getElem?_eq_getElem _⟩
  obtain ⟨zb, zo, rfl, hzb, d0, d1⟩ := hZ.at_ hy0
  rw [Nat.zero_mul, Nat.add_zero] at d0 d1
  have hlen : (0 : Int) < (zs.length : Int) := by have := List.length_pos_iff.2 hne; omega
  have hhead : (zs.map ZV.z).headD default = y0.z := by
    cases zs with
    | nil => exact absurd rfl hne
    | cons y r => simp at hy0; subst hy0; rfl
  obtain ⟨t, ht⟩ : ∃ t, Vn.ask (zs.map ZV.z) nm kd = t := ⟨_, rfl⟩
  have hto : AskTo (zs.map ZV.z) nm kd t a0 y0.z a0 100 := by
    have hm := hT.head
    rw [hhead] at hm
    have hl := (Vn.name_len (Rn.checkZ_ok (hT.fit _ hm)).fit).1
    have e : t = Vn.askF (zs.map ZV.z) nm kd 100 y0.z := by rw [← ht]; unfold Vn.ask; rw [hhead]
    exact ⟨hm, by rw [e], by rw [e], by omega, Nat.le_refl _⟩
  rw [ht]
  have h1 : Blk ((w0.alloc (.cells zeroRep 39)).alloc (.cells (zvL y0).toArray 24)) w0.heap.size zeroRep 39 := (blk_new w0 _ _).alloc _
  have h2 : Blk ((w0.alloc (.cells zeroRep 39)).alloc (.cells (zvL y0).toArray 24)) (w0.heap.size + 1) (zvL y0).toArray 24 := blk_second w0 _ _ _
  have hBw := ((Below.refl w0.heap.size w0).alloc (Nat.le_refl _) (.cells zeroRep 39)).alloc (by simp) (.cells (zvL y0).toArray 24)
  have hinv : AskInv B pa pb w0.heap.size (w0.heap.size + 1) w0 ak0 (.slice (some ⟨zb, zo, none⟩) zs.length zc) c al rs (zs.map ZV.z) zs nm kd t a0 ((w0.alloc (.cells zeroRep 39)).alloc (.cells (zvL y0).toArray 24)) :=
    ⟨y0, ak0, a0, 100, ⟨hp.later hBw, h2, h1, hrow.later hBw, (Fq.refl B pa pb ak0 w0).later hBw hB0, fun g hg => .inl hg, ⟨hB0, hpa, Nat.le_refl _, Nat.le_succ _⟩⟩, List.mem_of_getElem? hy0, hto⟩
  have HI := Lib.hid hinv
  have hpc := fun j => hp.cell j
  have hplt := hp.lt
  clear hinv h1 h2 hBw hto ht hhead hy0 henv hT hZ hp hpb hrow hne
  unfold AskEnd
  obtain ⟨⟨og, rr⟩, ya, yc⟩ := y0
  unfold zeroRep zvL at HI
  dsimp only at HI d0 d1
  go_enter Tryz.func66, Tryz.ntmps66
  go_wp2
  clear d0 d1
  generalize hq6 : w0.heap.size = q6 at *
  go_loopw [] (fun wr => Hid (AskInv B pa pb q6 (q6 + 1) w0 ak0 (.slice (some ⟨zb, zo, none⟩) zs.length zc) c al rs (zs.map ZV.z) zs nm kd t a0 wr)) (fun wr => 81 - oLen wr (q6 + 1))
  case atStart => exact HI
  case round =>
    obtain ⟨y, ak, asked, f, hS, hy, hto⟩ := hrel.out
    obtain ⟨hl80, hf1⟩ := hto.pos HT.out
    obtain ⟨f, rfl⟩ : ∃ f', f = f' + 1 := ⟨f - 1, by omega⟩
    have hoL : oLen wr (q6 + 1) = y.z.origin.length := oLen_blk hS.zb
    have hcnt : asked.length ≤ 100100 := by have := hto.few; omega
    have HS := Lib.hid hS
    have HTo := Lib.hid hto
    have hrow := hS.row
    obtain ⟨av, capv, rfl⟩ := ownsRow_val hrow
    have hpa4 := fun j => hS.pab.cell j
    have hz8 := fun j => hS.zb.cell j
    have hp4 := fun j => hS.pab.froz j
    have hpl := hS.pab.lt
    have hzl := hS.zb.lt
    have hBwr : B ≤ wr.heap.size := Nat.le_trans hS.lo.1 hS.fq.below.size
    have hfarp := hrow.far hS.pab (by decide)
    have hfarz := hrow.far hS.zb (by decide)
    clear hrel hS hto
    obtain ⟨⟨og, rr⟩, ya, yc⟩ := y
    unfold zvL at hz8
    dsimp only at *
    obtain ⟨i0, hi, hz0, hz1, hz2⟩ := info_parts' info9
    go_upto_region 2 with fail
    go_cut [] from 19 to 68 (fun wx => AskMid B pa pb q6 (q6 + 1) w0 ak0 (.slice (some ⟨zb, zo, none⟩) zs.length zc) c al rs ⟨⟨og, rr⟩, ya, yc⟩ asked og wx)
    case first =>
      go_wp2_with fail
      go_region_law ((refine step_append_lies _ (by rfl) _ _ _ (by rfl) B 9 i0 _ 1 16 Tryz.underlying52 hi hz0 hz1 hz2 rfl (by omega) (.slice av asked.length capv) asked.length (strV asked) (by rfl) ((hrow.alloc _).drew) ⟨wr.heap.size, 0, none⟩ 1 1 [.string ⟨og.toArray⟩] (by rfl) (by rfl) (World.news_of_block (cs := #[.string ⟨og.toArray⟩]) (t := 9) (fr := (0, 0)) (heap_alloc_new wr _)) (by simp [Value.oneCell']) (by omega) (by unfold maxLen; omega) (by omega) (by simp; omega) (wr.heap.size + 1) (by simp) ?_; intro gg cap1 w4 hown4 hg4 hat hlt4; have hg5 : wr.grownBy w4 (Value.slice av asked.length capv).ownBlock := (World.grownBy_alloc wr (.cells #[.string ⟨og.toArray⟩] 9) _).trans ⟨hg4.os, hg4.tape, hg4.output, hg4.size, hg4.block⟩; have e0 : w4.cell? ⟨pa, 4, none⟩ = some (.slice av asked.length capv) := (World.cell?_of_block (hg5.block pa hpl (Ne.symm hfarp))).trans (hpa4 4); have e1 : w4.frozen? ⟨pa, 4, none⟩ = false := (World.frozen?_of_block (hg5.block pa hpl (Ne.symm hfarp))).trans (hp4 4)))
      all_goals
        have hS5 := HS.out.push hown4 hg5 (hat.imp_right (by omega))
        have HM := Lib.hid (show AskMid B pa pb q6 (q6 + 1) w0 ak0 (.slice (some ⟨zb, zo, none⟩) zs.length zc) c al rs ⟨⟨og, rr⟩, ya, yc⟩ asked og _ from ⟨gg, cap1, hS5⟩)
        clear hS5
        go_wp2
        go_meet
        exact HM.out
    case rest =>
      obtain ⟨gg, cap1, hS5⟩ := hcut
      clear hpa4 hz8 hp4 hpl hzl hBwr hfarp hfarz HS hrow HI hpc hi hz0 hz1 hz2
      generalize wc = w5 at *
      have HS5 := Lib.hid hS5
      have hz5 := fun j => hS5.zb.cell j
      have hzl5 := hS5.zb.lt
      have hrl5 := hS5.rb.lt
      have HA := Lib.hid (answer_any B og ya yc rr nm kd w5 (HE.out w5 hS5.fq.below) ((HZ.out w5 hS5.fq).recs _ hy).1 ((HZ.out w5 hS5.fq).recs _ hy).2)
      clear hS5
      unfold AnsEnd zoneV at HA
      unfold zvL at hz5
      obtain ⟨R, hR⟩ : ∃ R, (Rn.answer ⟨og, rr⟩ nm kd).1 = R := ⟨_, rfl⟩
      obtain ⟨q, hq⟩ : ∃ q, (Rn.answer ⟨og, rr⟩ nm kd).2 = q := ⟨_, rfl⟩
      rw [hR, hq] at HA
      have HRq := Lib.hid (And.intro hR hq)
      clear hR hq
      dsimp only at hz5
      obtain ⟨rc, rL, rS, rG, rn⟩ := R
      have hcases : (q ≠ 0 ∨ q = 0 ∧ rc ≠ 3) ∨ (q = 0 ∧ rc = 3) := by omega
      rcases hcases with hstop | ⟨hq0, hr3⟩
      · have HF := Lib.hid (HTo.out.stop (by
          obtain ⟨h1, h2⟩ := HRq.out
          rcases hstop with h | ⟨-, h⟩
          · exact .inl (by rw [h2]; exact h)
          · exact .inr (by rw [h1]; exact h)))
        have hcases : ((q == 0) = false ∧ (q != 0) = true) ∨ ((q == 0) = true ∧ (q != 0) = false ∧ (rc == 3) = false ∧ (rc != 3) = true) := by
          rcases hstop with h | ⟨rfl, h⟩
          · have := beq_eq_false_iff_ne.2 h
            exact .inl ⟨this, by rw [bne, this]; rfl⟩
          · have := beq_eq_false_iff_ne.2 h
            exact .inr ⟨rfl, rfl, this, by rw [bne, this]; rfl⟩
        have HRt := Lib.hid (show t = ((⟨rc, rL, rS, rG, rn⟩, q), t.2) by
          have h1 := HF.out.1
          obtain ⟨h2, h3⟩ := HRq.out
          have h4 : t.1 = (⟨rc, rL, rS, rG, rn⟩, q) := by rw [h1, ← h2, ← h3]
          rw [← h4])
        clear hstop HRq
        rcases hcases with ⟨e1, e2⟩ | ⟨e1, e2, e3, e4⟩
        all_goals
          go_wp2_with fail
          refine HA.out.mono ?_
          rintro e w6 ⟨v, rfl, hrep, hB6⟩
          obtain ⟨v1, v2, v3, rfl, hr1, hr2, hr3⟩ := hrep.val
          dsimp only at hr1 hr2 hr3 ⊢
          obtain ⟨a1, k1, rfl⟩ := hr1.val
          obtain ⟨a2, k2, rfl⟩ := hr2.val
          obtain ⟨a3, k3, rfl⟩ := hr3.val
          have HB6 := Lib.hid ((Below.refl w6.heap.size w6).alloc (Nat.le_refl _) (.cells #[.int .i64 rc, .slice a1 rL.length k1, .slice a2 rS.length k2, .slice a3 rG.length k3, .int .i64 rn] 39))
          have hS7 := (HS5.out.later hB6).later HB6.out
          have HS7 := Lib.hid hS7
          have hc7 := fun j => (blk_new w6 #[.int .i64 rc, .slice a1 rL.length k1, .slice a2 rS.length k2, .slice a3 rG.length k3, .int .i64 rn] 39).cell j
          have hq7 := fun j => hS7.rb.cell j
          have hf7 := fun j => hS7.rb.froz j
          have hs65 := hB6.size
          have hl7 := hS7.rb.lt
          have H1 := Lib.hid (hr1.later HB6.out)
          have H2 := Lib.hid (hr2.later HB6.out)
          have H3 := Lib.hid (hr3.later HB6.out)
          have hsz : w0.heap.size ≤ w5.heap.size := HS5.out.fq.below.size
          clear hrep hr1 hr2 hr3 hS7 hB6 hz5
          unfold zeroRep at hq7
          generalize hl1 : rL.length = n1 at *
          generalize hl2 : rS.length = n2 at *
          generalize hl3 : rG.length = n3 at *
          have HL := Lib.hid (And.intro hl1 (And.intro hl2 hl3))
          clear hl1 hl2 hl3
          go_wp2
          refine bodyPost_ret (results_cell_pair rfl _ _ q6 39 _ (0, 0) _ rfl HS7.out.done.1 Tryz.underlying39 rfl (by kernel_rfl)) rfl ?_
          refine ⟨_, _, by rw [HRt.out]; rfl, by rw [HRt.out]; exact ⟨_, _, _, rfl, (H1.out.five hrl5).mono hsz, (H2.out.five hrl5).mono hsz, (H3.out.five hrl5).mono hsz⟩, HS7.out.done.2.1, by rw [HF.out.2]; exact HS7.out.done.2.2.1, HS7.out.done.2.2.2, HS7.out.own⟩
      · subst hr3
        subst hq0
        obtain ⟨hR1, hR2⟩ := HRq.out
        have hc3 : (Rn.answer ⟨og, rr⟩ nm kd).1.code = 3 := by rw [hR1]
        obtain ⟨sx, sS, hsx, hsn⟩ := servers_some hR2 hc3
        rw [hR1] at hsx
        dsimp only at hsx
        subst hsx
        obtain ⟨cut, hcut⟩ : ∃ cut, Vn.cutOf (Rn.answer ⟨og, rr⟩ nm kd).1 = cut := ⟨_, rfl⟩
        have hfind := idxZ_find cut zs
        obtain ⟨qi, hqi⟩ : ∃ qi, idxZ cut zs = qi := ⟨_, rfl⟩
        rw [hqi] at hfind
        rw [hcut] at hsn
        have Hcut := Lib.hid hcut
        have Hqi := Lib.hid hqi
        have Hc3 := Lib.hid hc3
        have HR2 := Lib.hid hR2
        have Hfind := Lib.hid hfind
        clear hcut hqi hc3 hR1 hR2 hfind HRq
        go_wp2_with fail
        refine HA.out.mono ?_
        rintro e w6 ⟨v, rfl, hrep, hB6⟩
        obtain ⟨v1, v2, v3, rfl, hr1, hr2, hr3⟩ := hrep.val
        dsimp only at hr1 hr2 hr3 ⊢
        obtain ⟨a1, k1, rfl⟩ := hr1.val
        obtain ⟨a2, k2, rfl⟩ := hr2.val
        obtain ⟨a3, k3, rfl⟩ := hr3.val
        obtain ⟨sb, so, rfl, hsb, s0, -, -, -⟩ := recs_at (k := 0) (hr2.recs (B' := B)) rfl
        rw [Nat.zero_mul, Nat.add_zero, hsn] at s0
        have hs1 : (0 : Int) < ((sx :: sS).length : Int) := by rw [List.length_cons]; omega
        have HB6 := Lib.hid ((Below.refl w6.heap.size w6).alloc (Nat.le_refl _) (.cells #[.int .i64 3, .slice a1 rL.length k1, .slice (some ⟨sb, so, none⟩) (sx :: sS).length k2, .slice a3 rG.length k3, .int .i64 rn] 39))
        have hS7 := (HS5.out.later hB6).later HB6.out
        have HS7 := Lib.hid hS7
        have hc7 := fun j => (blk_new w6 #[.int .i64 3, .slice a1 rL.length k1, .slice (some ⟨sb, so, none⟩) (sx :: sS).length k2, .slice a3 rG.length k3, .int .i64 rn] 39).cell j
        have hp7 := fun j => (HS5.out.later hB6).pab.cell j
        have hpl7 := (HS5.out.later hB6).pab.lt
        have hzl7 := (HS5.out.later hB6).zb.lt
        have hs65 := hB6.size
        have s07 := (HB6.out.cell (p := ⟨sb, so, none⟩) hsb).trans s0
        generalize hsl : (sx :: sS).length = sl at *
        clear hrep hr1 hr2 hr3 hS7 hB6 hz5 s0 hsn
        have hb11 := (blk_second w6 (.cells #[.int .i64 3, .slice a1 rL.length k1, .slice (some ⟨sb, so, none⟩) sl k2, .slice a3 rG.length k3, .int .i64 rn] 39) #[.string ⟨cut.toArray⟩] 9).cell 0
        have HB7 := Lib.hid ((Below.refl (w6.heap.size + 1) (w6.alloc (.cells #[.int .i64 3, .slice a1 rL.length k1, .slice (some ⟨sb, so, none⟩) sl k2, .slice a3 rG.length k3, .int .i64 rn] 39))).alloc (by simp) (.cells #[.string ⟨cut.toArray⟩] 9))
        have HIX := Lib.hid (indexZ_any B _ _ cut (some ⟨zb, zo, none⟩) zc zs _ enters_ask1 (ask1_tests _ cut _ hb11) ((HZ.out _ (HS7.out.later (HB7.out.mono (by simp))).fq)))
        unfold IntEnd at HIX
        rw [Hqi.out] at HIX
        rcases Hfind.out with ⟨rfl, hnone⟩ | ⟨k, x, rfl, hx, hsome⟩
        · have HN := Lib.hid (HTo.out.none HR2.out Hc3.out (by rw [Hcut.out]; exact hnone))
          have HRt := Lib.hid (show t = (({}, 4), t.2) by rw [← HN.out.1])
          clear hnone
          go_wp2_with fail
          refine HIX.out.mono ?_
          rintro e w8 ⟨rfl, hB8⟩
          have HS8 := Lib.hid ((HS7.out.later (HB7.out.mono (by simp))).later hB8)
          have hq8 := fun j => HS8.out.rb.cell j
          have hf8 := fun j => HS8.out.rb.froz j
          have hl8 := HS8.out.rb.lt
          have hsz : w0.heap.size ≤ w5.heap.size := HS5.out.fq.below.size
          unfold zeroRep at hq8
          clear hB8 hp7
          go_wp2
          refine bodyPost_ret (results_cell_pair rfl _ _ q6 39 _ (0, 0) _ rfl HS8.out.done.1 Tryz.underlying39 rfl (by kernel_rfl)) rfl ?_
          refine ⟨_, _, by rw [HRt.out]; rfl, by rw [HRt.out]; exact ⟨_, _, _, rfl, rowR_nil _ _, rowR_nil _ _, rowR_nil _ _⟩, HS8.out.done.2.1, by rw [HN.out.2]; exact HS8.out.done.2.2.1, HS8.out.done.2.2.2, HS8.out.own⟩
        · have HN := Lib.hid (HTo.out.next HT.out HR2.out Hc3.out (by rw [Hcut.out]; exact hsome))
          have hk0 : (0 : Int) ≤ (k : Int) := by omega
          have hk1 : (k : Int) < (zs.length : Int) := by have := (List.getElem?_eq_some_iff.1 hx).1; omega
          have Hx := Lib.hid hx
          clear hsome hx
          go_wp2_with fail
          refine HIX.out.mono ?_
          rintro e w8 ⟨rfl, hB8⟩
          have HS8 := Lib.hid ((HS7.out.later (HB7.out.mono (by simp))).later hB8)
          have hp8 := fun j => HS8.out.pab.cell j
          have hpl8 := HS8.out.pab.lt
          have hz8 := fun j => HS8.out.zb.cell j
          have hf8 := fun j => HS8.out.zb.froz j
          have hl8 := HS8.out.zb.lt
          have hxm := List.mem_of_getElem? Hx.out
          obtain ⟨b', p', hbp, hb2, d0, d1⟩ := (HZ.out _ HS8.out.fq).at_ Hx.out
          injection hbp with hbp
          injection hbp with g1 g2
          subst g1 g2
          have HM := Lib.hid (HS8.out.move x)
          have HL := Lib.hid (show (81 - oLen ((w8.setCell ⟨q6 + 1, 0, none⟩ (.string ⟨x.z.origin.toArray⟩)).setCell ⟨q6 + 1, 1, none⟩ (.slice x.a x.z.recs.length x.cap)) (q6 + 1) < 81 - oLen wr (q6 + 1)) by
            rw [oLen_blk HM.out.zb, hoL]
            have := HN.out.2
            omega)
          unfold zvL at hz8
          dsimp only at hz8
          clear hB8 hp7
          go_wp2
          exact ⟨⟨x, _, _, f, HM.out, hxm, HN.out.1⟩, HL.out⟩
end Go.Proofs.YtajllcbjgndcpaaGreatDoor

namespace Go.Proofs.YtajllcbjgndcpaaGreatDoor
open Go.RowKit Go.Maps

/-- Where follow stands. -/
structure FolTo {σ : Type} (one : Lb.Bs → σ → Vn.Told × σ) (X : (Vn.Res × Int) × σ) (name : Lb.Bs) (seen : List Lb.Bs) (a : Vn.Res) (s : σ) (f : Nat) : Prop where
  eq : X = Vn.followF one f name seen a s
  fuel : f + seen.length = 10
  few : seen.length ≤ 8
  zero : a.code = 0 ∧ a.recs = []
  als : a.aliases.length + 1 = seen.length
  ask : a.asked.length ≤ 100 * (seen.length - 1)
section
variable {σ : Type} {one : Lb.Bs → σ → Vn.Told × σ} {X : (Vn.Res × Int) × σ} {name : Lb.Bs} {seen : List Lb.Bs} {a : Vn.Res} {s : σ} {f : Nat}
theorem FolTo.err (h : FolTo one X name seen a s (f + 1)) (h1 : (one name s).1.1.2 ≠ 0) : X = ((a.heard (one name s).1.2, (one name s).1.1.2), (one name s).2) := by
  rw [h.eq, Vn.followF, if_pos h1]
theorem FolTo.done (h : FolTo one X name seen a s (f + 1)) (h1 : (one name s).1.1.2 = 0) (h2 : (one name s).1.1.1.code ≠ 2) : X = (((a.heard (one name s).1.2).done (one name s).1.1.1, 0), (one name s).2) := by
  rw [h.eq, Vn.followF, if_neg (by simp [h1]), if_pos h2]
theorem FolTo.loop (h : FolTo one X name seen a s (f + 1)) (h1 : (one name s).1.1.2 = 0) (h2 : (one name s).1.1.1.code = 2) (h3 : Vn.stop seen ((one name s).1.1.1.recs.headD default).data = true) :
    X = (((a.heard (one name s).1.2).alias ((one name s).1.1.1.recs.headD default), 12), (one name s).2) := by
  rw [h.eq, Vn.followF, if_neg (by simp [h1]), if_neg (by simp [h2])]
  dsimp only
  rw [h3]; rfl
theorem FolTo.next (h : FolTo one X name seen a s (f + 1)) (h1 : (one name s).1.1.2 = 0) (h2 : (one name s).1.1.1.code = 2) (h3 : Vn.stop seen ((one name s).1.1.1.recs.headD default).data = false) (hl : (one name s).1.2.length ≤ 100) :
    FolTo one X ((one name s).1.1.1.recs.headD default).data (seen ++ [((one name s).1.1.1.recs.headD default).data]) ((a.heard (one name s).1.2).alias ((one name s).1.1.1.recs.headD default)) (one name s).2 f := by
  have hs := Vn.stop_false h3
  have h4 := h.few
  have h5 := h.als
  have h6 := h.ask
  have h7 := h.fuel
  refine ⟨?_, by simp; omega, by simp; omega, h.zero, by simp [Vn.Res.alias, Vn.Res.heard]; omega, by simp [Vn.Res.alias, Vn.Res.heard]; omega⟩
  rw [h.eq, Vn.followF, if_neg (by simp [h1]), if_neg (by simp [h2])]
  dsimp only
  rw [h3]; rfl
end

abbrev nilS : Value := .slice none 0 0
section
variable {σ : Type} (B pa pb : Nat) (St : σ → Option Nat → World → Prop)
/-- The state beside the asker stands follow's own steps. -/
structure StOk : Prop where
  stab : ∀ s g g' W W', St s g W → Below B W W' → (∀ k, k < W.heap.size → k ≠ pa → g ≠ some k → (∀ cs fr, W.heap[k]? ≠ some (.cells cs 9 fr)) → W'.heap[k]? = W.heap[k]?) → (∀ k, g' = some k → g = some k ∨ W.heap.size ≤ k) → St s g' W'
  pbt : ∀ s g W, St s g W → ∀ cs T fr, W.heap[pb]? = some (.cells cs T fr) → T ≠ 43 ∧ T ≠ 24 ∧ T ≠ 9
structure FolSt (w0 : World) (zsl al ak se : Value) (aliases : List Cb.Rec) (asked seen : List Lb.Bs) (s : σ) (wr : World) : Prop where
  pab : Blk wr pa #[zsl, .int .i64 0, al, nilS, ak] 107
  alr : RowR B wr al aliases
  alo : ∀ g, al.ownBlock = some g → w0.heap.size ≤ g
  row : RowS B wr ak asked
  ako : ∀ g, ak.ownBlock = some g → w0.heap.size ≤ g
  ser : RowS B wr se seen
  seo : ∀ g, se.ownBlock = some g → w0.heap.size ≤ g ∧ ak.ownBlock ≠ some g
  fq : Fq B pa pb nilS w0 wr
  st : St s al.ownBlock wr
  lo : B ≤ w0.heap.size ∧ B ≤ pa ∧ pa < w0.heap.size
def OneEnd (t : Vn.Told) (s' : σ) (zsl al ak : Value) (asked : List Lb.Bs) (W : World) (e : Ending) (w' : World) : Prop :=
  AskEnd t B pa pb ak zsl (.int .i64 0) al nilS asked W e w' ∧ St s' al.ownBlock w' ∧ t.2.length ≤ 100 ∧ (t.1.2 = 0 → t.1.1.code = 2 → t.1.1.recs ≠ [])
/-- What follow leaves. -/
def FolEnd (X : (Vn.Res × Int) × σ) (zsl : Value) (w0 : World) (e : Ending) (w' : World) : Prop :=
  e = .returned (.int .i64 X.1.2) ∧ ∃ al rs ak, Blk w' pa #[zsl, .int .i64 X.1.1.code, al, rs, ak] 107 ∧ RowR B w' al X.1.1.aliases ∧ RowR B w' rs X.1.1.recs ∧ RowS B w' ak X.1.1.asked ∧ Fq B pa pb nilS w0 w' ∧ ∃ g, St X.2 g w'
end
section
variable {σ : Type} {B pa pb : Nat} {St : σ → Option Nat → World → Prop} {w0 : World} {zsl al ak se : Value} {aliases : List Cb.Rec} {asked seen : List Lb.Bs} {s : σ} {wr w' : World}
theorem RowR.lt {B : Nat} {w : World} {v : Value} {l : List Cb.Rec} (h : RowR B w v l) (k : Nat) (hk : v.ownBlock = some k) : k < w.heap.size := by
  rcases h.2 with ⟨rfl, _⟩ | ⟨g, cap, cur, rfl, _, hg, _⟩
  · cases hk
  · injection hk with hk; subst hk; exact (Array.getElem?_eq_some_iff.1 hg).1
theorem RowS.obj {B : Nat} {w : World} {v : Value} {l : List Lb.Bs} (h : RowS B w v l) {k : Nat} (hk : v.ownBlock = some k) : ∃ cur, w.heap[k]? = some (.cells cur 9 (0, 0)) := by
  rcases h.2 with ⟨rfl, _⟩ | ⟨g, cap, cur, rfl, _, hg, _⟩
  · cases hk
  · injection hk with hk; subst hk; exact ⟨cur, hg⟩
theorem RowR.obj {B : Nat} {w : World} {v : Value} {l : List Cb.Rec} (h : RowR B w v l) {k : Nat} (hk : v.ownBlock = some k) : ∃ cur, w.heap[k]? = some (.cells cur 43 (0, 0)) := by
  rcases h.2 with ⟨rfl, _⟩ | ⟨g, cap, cur, rfl, _, hg, _⟩
  · cases hk
  · injection hk with hk; subst hk; exact ⟨cur, hg⟩
theorem cells_ne {w : World} {k q : Nat} {cs cs' : Array Value} {T T' : TypeId} {fr fr' : Nat × Nat} (h : w.heap[k]? = some (.cells cs T fr)) (h' : w.heap[q]? = some (.cells cs' T' fr')) (hT : T ≠ T') : k ≠ q := by
  rintro rfl
  rw [h] at h'
  injection h' with h'
  injection h' with _ h2 _
  exact hT h2
theorem FolSt.later (hS : StOk B pa pb St) (h : FolSt B pa pb St w0 zsl al ak se aliases asked seen s wr) (hB : Below wr.heap.size wr w') : FolSt B pa pb St w0 zsl al ak se aliases asked seen s w' :=
  have hb := Nat.le_trans h.lo.1 h.fq.below.size
  ⟨h.pab.later hB, h.alr.later hB, h.alo, h.row.later hB, h.ako, h.ser.later hB, h.seo, h.fq.later hB hb, hS.stab _ _ _ _ _ h.st (hB.mono hb) (fun k hk _ _ _ => hB.block k hk) (fun k hk => .inl hk), h.lo⟩
/-- After one question. -/
theorem FolSt.heard {t : Vn.Told} {s' : σ} {e : Ending} (hS : StOk B pa pb St) (h : FolSt B pa pb St w0 zsl al ak se aliases asked seen s wr) (hE : OneEnd B pa pb St t s' zsl al ak asked wr e w') :
    ∃ v ak', e = .returned (.tuple #[v, .int .i64 t.1.2]) ∧ RepR wr.heap.size w' v t.1.1 ∧ FolSt B pa pb St w0 zsl al ak' se aliases (asked ++ t.2) seen s' w' ∧ t.2.length ≤ 100 ∧ (t.1.2 = 0 → t.1.1.code = 2 → t.1.1.recs ≠ []) := by
  obtain ⟨⟨v, ak', he, hr, hp, hw, hf, ho⟩, hst, hl, hn⟩ := hE
  have hpbt := hS.pbt _ _ _ h.st
  refine ⟨v, ak', he, hr, ⟨hp, ?_, h.alo, hw, ?_, ?_, ?_, ?_, hst, h.lo⟩, hl, hn⟩
  · refine h.alr.kept fun g hg => ?_
    obtain ⟨cur, hc⟩ := h.alr.obj hg
    refine hf.kept g (h.alr.lt g hg) (cells_ne hc h.pab (by decide)) ?_ (h.row.far hc (by decide)) fun cs fr e => ?_
    · rintro rfl; exact (hpbt _ _ _ hc).1 rfl
    · rw [hc] at e; injection e with e; injection e with _ e _; exact absurd e (by decide)
  · intro g hg
    rcases ho g hg with e | e
    · exact h.ako g e
    · exact Nat.le_trans h.fq.below.size e
  · refine h.ser.kept fun g hg => ?_
    obtain ⟨cur, hc⟩ := h.ser.obj hg
    refine hf.kept g (h.ser.lt g hg) (cells_ne hc h.pab (by decide)) ?_ (h.seo g hg).2 fun cs fr e => ?_
    · rintro rfl; exact (hpbt _ _ _ hc).2.2 rfl
    · rw [hc] at e; injection e with e; injection e with _ e _; exact absurd e (by decide)
  · intro g hg
    refine ⟨(h.seo g hg).1, fun e => ?_⟩
    rcases ho g e with e2 | e2
    · exact (h.seo g hg).2 e2
    · have := h.ser.lt g hg; omega
  · exact h.fq.trans hf fun g hg => .inr (h.ako g hg)
/-- A step of follow's own that changes pa and rows at most. -/
theorem FolSt.fqStep (h : FolSt B pa pb St w0 zsl al ak se aliases asked seen s wr) (hB : Below B wr w') (hk : ∀ k, k < w0.heap.size → k ≠ pa → w'.heap[k]? = wr.heap[k]?) : Fq B pa pb nilS w0 w' :=
  ⟨h.fq.below.trans hB, fun k hk1 hp hq hn ht => (hk k hk1 hp).trans (h.fq.kept k hk1 hp hq hn ht)⟩
/-- An alias more. -/
theorem FolSt.pushA (hS : StOk B pa pb St) (h : FolSt B pa pb St w0 zsl al ak se aliases asked seen s wr) {x : Cb.Rec} {g n cap : Nat} (hrow : w'.ownsRow B 43 4 (.slice (some ⟨g, 0, none⟩) n cap) (aliases.length + 1) (aliases.flatMap recV ++ recV x))
    (hg : wr.grownBy w' al.ownBlock) (hat : al.ownBlock = some g ∨ wr.heap.size ≤ g) : FolSt B pa pb St w0 zsl (.slice (some ⟨g, 0, none⟩) n cap) ak se (aliases ++ [x]) asked seen s (w'.setCell ⟨pa, 2, none⟩ (.slice (some ⟨g, 0, none⟩) n cap)) := by
  have hBw : B ≤ wr.heap.size := Nat.le_trans h.lo.1 h.fq.below.size
  have hsz := h.fq.below.size
  have hs := RowR.snoc hrow
  have hpne : al.ownBlock ≠ some pa := h.alr.far h.pab (by decide)
  have hpa : Blk w' pa #[zsl, .int .i64 0, al, nilS, ak] 107 := h.pab.grown hg hpne
  have hgpa : g ≠ pa := by rintro rfl; exact absurd rfl (hs.far hpa (by decide))
  have hother : ∀ k, k < wr.heap.size → k ≠ pa → al.ownBlock ≠ some k → (w'.setCell ⟨pa, 2, none⟩ (.slice (some ⟨g, 0, none⟩) n cap)).heap[k]? = wr.heap[k]? := fun k hk hp hn => by
    rw [Below.heap_setCell _ _ _ _ hp]; exact hg.block k hk (fun e => hn e.symm)
  have hBel : Below B wr (w'.setCell ⟨pa, 2, none⟩ (.slice (some ⟨g, 0, none⟩) n cap)) := ((Below.refl B wr).grown hg hBw (fun k hk => RowR.ownB h.alr k hk)).setCell (p := ⟨pa, 2, none⟩) h.lo.2.1 _
  refine ⟨?_, ?_, ?_, ?_, h.ako, ?_, h.seo, h.fqStep hBel fun k hk hp => hother k (by omega) hp ?_, ?_, h.lo⟩
  · have := hpa.set (j := 2) (.slice (some ⟨g, 0, none⟩) n cap)
    simpa using this
  · refine hs.kept fun k hk => ?_
    injection hk with hk
    subst hk
    exact Below.heap_setCell _ _ _ _ hgpa
  · intro k hk
    injection hk with hk
    subst hk
    rcases hat with e | e
    · exact h.alo _ e
    · exact Nat.le_trans hsz e
  · refine h.row.kept fun k hk => ?_
    obtain ⟨cur, hc⟩ := h.row.obj hk
    refine hother k (h.row.lt k hk) (cells_ne hc h.pab (by decide)) fun e => ?_
    obtain ⟨cur2, hc2⟩ := h.alr.obj e
    exact cells_ne hc hc2 (by decide) rfl
  · refine h.ser.kept fun k hk => ?_
    obtain ⟨cur, hc⟩ := h.ser.obj hk
    refine hother k (h.ser.lt k hk) (cells_ne hc h.pab (by decide)) fun e => ?_
    obtain ⟨cur2, hc2⟩ := h.alr.obj e
    exact cells_ne hc hc2 (by decide) rfl
  · intro e
    have := h.alo k e
    omega
  · refine hS.stab _ _ _ _ _ h.st hBel (fun k hk hp hn _ => hother k hk hp hn) fun k hk => ?_
    injection hk with hk
    subst hk
    exact hat
/-- A name more is seen. -/
theorem FolSt.pushS (hS : StOk B pa pb St) (h : FolSt B pa pb St w0 zsl al ak se aliases asked seen s wr) {x : Lb.Bs} {g n cap : Nat} (hrow : w'.ownsRow B 9 1 (.slice (some ⟨g, 0, none⟩) n cap) (seen.length + 1) (strV seen ++ [.string ⟨x.toArray⟩]))
    (hg : wr.grownBy w' se.ownBlock) (hat : se.ownBlock = some g ∨ wr.heap.size ≤ g) : FolSt B pa pb St w0 zsl al ak (.slice (some ⟨g, 0, none⟩) n cap) aliases asked (seen ++ [x]) s w' := by
  have hBw : B ≤ wr.heap.size := Nat.le_trans h.lo.1 h.fq.below.size
  have hsz := h.fq.below.size
  have hs := RowS.snoc hrow
  have hother : ∀ k, k < wr.heap.size → se.ownBlock ≠ some k → w'.heap[k]? = wr.heap[k]? := fun k hk hn => hg.block k hk (fun e => hn e.symm)
  have hBel : Below B wr w' := (Below.refl B wr).grown hg hBw (fun k hk => h.ser.own k hk)
  refine ⟨h.pab.grown hg (h.ser.far h.pab (by decide)), ?_, h.alo, ?_, h.ako, hs, ?_, h.fqStep hBel fun k hk hp => hother k (by omega) ?_, ?_, h.lo⟩
  · refine h.alr.kept fun k hk => ?_
    obtain ⟨cur, hc⟩ := h.alr.obj hk
    refine hother k (h.alr.lt k hk) fun e => ?_
    obtain ⟨cur2, hc2⟩ := h.ser.obj e
    exact cells_ne hc hc2 (by decide) rfl
  · refine h.row.kept fun k hk => hother k (h.row.lt k hk) fun e => (h.seo k e).2 hk
  · intro k hk
    injection hk with hk
    subst hk
    rcases hat with e | e
    · exact h.seo _ e
    · exact ⟨Nat.le_trans hsz e, fun e2 => absurd (h.row.lt _ e2) (Nat.not_lt.2 e)⟩
  · intro e
    have := (h.seo k e).1
    omega
  · refine hS.stab _ _ _ _ _ h.st hBel (fun k hk _ _ ht => hother k hk fun e => ?_) fun k hk => .inl hk
    obtain ⟨cur, hc⟩ := h.ser.obj e
    exact ht _ _ hc
/-- The end: code and records are stored. -/
theorem FolSt.fin (hS : StOk B pa pb St) (h : FolSt B pa pb St w0 zsl al ak se aliases asked seen s wr) {rs : Value} {recs : List Cb.Rec} (hr : RowR B wr rs recs) (c : Int) (h' : Blk w' pa #[zsl, .int .i64 c, al, rs, ak] 107) (hB : Below B wr w') (hk : ∀ k, k < wr.heap.size → k ≠ pa → w'.heap[k]? = wr.heap[k]?) :
    Blk w' pa #[zsl, .int .i64 c, al, rs, ak] 107 ∧ RowR B w' al aliases ∧ RowR B w' rs recs ∧ RowS B w' ak asked ∧ Fq B pa pb nilS w0 w' ∧ ∃ g, St s g w' := by
  refine ⟨h', h.alr.kept fun k e => ?_, hr.kept fun k e => ?_, h.row.kept fun k e => ?_, h.fqStep hB fun k hk1 hp => hk k (Nat.lt_of_lt_of_le hk1 h.fq.below.size) hp, al.ownBlock, hS.stab _ _ _ _ _ h.st hB (fun k hk1 hp _ _ => hk k hk1 hp) fun k e => .inl e⟩
  · obtain ⟨cur, hc⟩ := h.alr.obj e
    exact hk k (h.alr.lt k e) (cells_ne hc h.pab (by decide))
  · obtain ⟨cur, hc⟩ := hr.obj e
    exact hk k (hr.lt k e) (cells_ne hc h.pab (by decide))
  · obtain ⟨cur, hc⟩ := h.row.obj e
    exact hk k (h.row.lt k e) (cells_ne hc h.pab (by decide))
end
theorem askF_len (zs : List Zn.Zone) (nm : Lb.Bs) (kd : Int) : ∀ (f : Nat) (z : Zn.Zone), (Vn.askF zs nm kd f z).2.length ≤ f
  | 0, _ => Nat.le_refl _
  | f + 1, z => by
    unfold Vn.askF
    split
    · simp
    · split
      · simp
      · rename_i y _
        have := askF_len zs nm kd f y
        simp; omega
theorem alias_recs {z : Zn.Zone} {nm : Lb.Bs} {kd : Int} (hk : kd ≠ 0) (h : (Rn.answer z nm kd).1.code = 2) : (Rn.answer z nm kd).1.recs ≠ [] := by
  rcases Vn.answer_split z nm kd with ⟨-, h2⟩ | ⟨h2, -⟩
  · rw [h2] at h; cases h
  · rw [h2] at h ⊢
    exact (Rn.own_law z nm kd hk).2.1.2 (.inr h)
end Go.Proofs.YtajllcbjgndcpaaGreatDoor

namespace Go.Proofs.YtajllcbjgndcpaaGreatDoor
open Go.RowKit Go.Maps

def sLen : Value → Nat | .slice _ n _ => n | _ => 0
def FolInv {σ : Type} (one : Lb.Bs → σ → Vn.Told × σ) (X : (Vn.Res × Int) × σ) (B pa pb : Nat) (St : σ → Option Nat → World → Prop) (w0 : World) (zsl : Value) (n : Lb.Bs) (se : Value) (wr : World) : Prop :=
  ∃ seen a s f al ak, FolTo one X n seen a s f ∧ FolSt B pa pb St w0 zsl al ak se a.aliases a.asked seen s wr
theorem contains_seen (l : List Lb.Bs) (x : Lb.Bs) : Lib.containsS ((l.map fun y => (⟨y.toArray⟩ : ByteArray)).take l.length) ⟨x.toArray⟩ = decide (x ∈ l) := by
  rw [List.take_of_length_le (by simp), Bool.eq_iff_iff, Lib.containsS_iff, decide_eq_true_iff]
  constructor
  · intro h
    obtain ⟨y, hy, e⟩ := List.mem_map.1 h
    have : y = x := by injection e with e; have := congrArg Array.toList e; simpa using this
    rw [← this]; exact hy
  · intro h
    exact List.mem_map.2 ⟨x, h, rfl⟩
theorem seen_any {B : Nat} {w : World} {a : Option Addr} {n cap : Nat} {l : List Lb.Bs} (h : RowS B w (.slice a n cap) l) (hn : l ≠ []) (x : Lb.Bs) :
    Calls Tryz.prog 105 #[.slice a n cap, .string ⟨x.toArray⟩] w fun e w' => e = .returned (.bool (decide (x ∈ l))) ∧ w' = w := by
  obtain ⟨a', cap', hv, h1, h2, h3⟩ := h.strs
  injection hv with e1 e2 e3
  subst e1 e2 e3
  obtain ⟨b, o, rfl, hb, hc⟩ := h3 hn
  have := Tryz.slices_Contains_string b o l.length cap (l.map fun y => (⟨y.toArray⟩ : ByteArray)) ⟨x.toArray⟩ w (by simp) (by unfold maxLen at h2; omega) (fun j hj => by
    rw [List.length_map] at hj
    rw [hc j l[j] (List.getElem?_eq_getElem hj)]
    simp [List.getD_eq_getElem?_getD, hj])
  rw [contains_seen] at this
  exact this
theorem FolSt.keepA {σ : Type} {B pa pb : Nat} {St : σ → Option Nat → World → Prop} {w0 : World} {zsl al ak se : Value} {aliases : List Cb.Rec} {asked seen : List Lb.Bs} {s : σ} {wr w' : World} (h : FolSt B pa pb St w0 zsl al ak se aliases asked seen s wr)
    (hg : wr.grownBy w' al.ownBlock) {C : Nat} {rv : Value} {recs : List Cb.Rec} (hr : RowR C wr rv recs) (hC : ∀ g, al.ownBlock = some g → g < C) {q : Nat} {cs : Array Value} (hq : Blk wr q cs 39) (u : Value) :
    RowR C (w'.setCell ⟨pa, 2, none⟩ u) rv recs ∧ Blk (w'.setCell ⟨pa, 2, none⟩ u) q cs 39 := by
  refine ⟨hr.kept fun k hk => ?_, ?_⟩
  · obtain ⟨cur, hc⟩ := hr.obj hk
    have hne : k ≠ pa := cells_ne hc h.pab (by decide)
    rw [Below.heap_setCell _ _ _ _ hne]
    refine hg.block k (hr.lt k hk) fun e => ?_
    have h1 := hC k e.symm
    have h2 := RowR.ownB hr k hk
    omega
  · have h1 : Blk w' q cs 39 := hq.grown hg (h.alr.far hq (by decide))
    have hne : q ≠ pa := cells_ne hq h.pab (by decide)
    exact h1.setOther hne _
def FolMidA {σ : Type} (B pa pb : Nat) (St : σ → Option Nat → World → Prop) (w0 w2 : World) (zsl ak se : Value) (aliases : List Cb.Rec) (asked seen : List Lb.Bs) (s : σ) (rv : Value) (recs : List Cb.Rec) (q : Nat) (cs : Array Value) (wr : World) : Prop :=
  ∃ al, FolSt B pa pb St w0 zsl al ak se aliases asked seen s wr ∧ RowR w2.heap.size wr rv recs ∧ Blk wr q cs 39

set_option maxHeartbeats 12800000 in
set_option maxRecDepth 100000 in
theorem follow_any {σ : Type} (one : Lb.Bs → σ → Vn.Told × σ) (St : σ → Option Nat → World → Prop) (B pa pb F : Nat) (caps : Array Value) (zsl : Value) (nm : Lb.Bs) (kd : Int) (s0 : σ) (w0 : World)
    (enters : ∀ args w, (callFunc F args).run Tryz.prog w = .ok (.enter F args) w) (hS : StOk B pa pb St) (hB0 : B ≤ w0.heap.size) (hpa : B ≤ pa) (hp : Blk w0 pa #[zsl, .int .i64 0, nilS, nilS, nilS] 107) (hst : St s0 none w0)
    (hone : ∀ W s n al ak asked, Fq B pa pb nilS w0 W → St s al.ownBlock W → Blk W pa #[zsl, .int .i64 0, al, nilS, ak] 107 → RowS B W ak asked → asked.length ≤ 100000 →
      Calls Tryz.prog F (#[.string ⟨n.toArray⟩] ++ caps) W (OneEnd B pa pb St (one n s).1 (one n s).2 zsl al ak asked W)) :
    Calls Tryz.prog 64 #[.pointer (some ⟨pa, 0, none⟩), .string ⟨nm.toArray⟩, .int .i64 kd, .func (.func F) #[] caps] w0 (FolEnd B pa pb St (Vn.followF one 9 nm [nm] {} s0) zsl w0) := by
  obtain ⟨X, hX⟩ : ∃ X, Vn.followF one 9 nm [nm] {} s0 = X := ⟨_, rfl⟩
  have HO := Lib.hid hone
  have HSt := Lib.hid hS
  have hto : FolTo one X nm [nm] {} s0 9 := ⟨hX.symm, rfl, by simp, ⟨rfl, rfl⟩, rfl, by simp⟩
  have hrow : RowS B (w0.alloc (.cells #[.string ⟨nm.toArray⟩] 9)) (.slice (some ⟨w0.heap.size, 0, none⟩) 1 1) [nm] :=
    ⟨rfl, .inr ⟨w0.heap.size, 1, #[.string ⟨nm.toArray⟩], rfl, hB0, heap_alloc_new w0 _, Nat.le_refl _, by unfold maxLen; omega, rfl, rfl⟩⟩
  have hBa := (Below.refl w0.heap.size w0).alloc (Nat.le_refl _) (.cells #[.string ⟨nm.toArray⟩] 9)
  have hinv : FolInv one X B pa pb St w0 zsl nm (.slice (some ⟨w0.heap.size, 0, none⟩) 1 1) (w0.alloc (.cells #[.string ⟨nm.toArray⟩] 9)) :=
    ⟨[nm], {}, s0, 9, nilS, nilS, hto, ⟨hp.later hBa, rowR_nil _ _, (fun g hg => by cases hg), World.ownsRow_nil _ _ _ _, (fun g hg => by cases hg), hrow, (fun g hg => ⟨by injection hg with hg; exact Nat.le_of_eq hg, by intro e; cases e⟩),
      (Fq.refl B pa pb nilS w0).later hBa hB0, hS.stab _ _ _ _ _ hst (hBa.mono hB0) (fun k hk _ _ _ => hBa.block k hk) (fun k hk => .inl hk), ⟨hB0, hpa, hp.lt⟩⟩⟩
  have HI := Lib.hid hinv
  rw [hX]
  clear hinv hBa hrow hto hst hone hS hX
  unfold FolEnd
  go_enter Tryz.func64, Tryz.ntmps64
  go_wp2
  go_loopw [1, 9] (fun nv se wr => ∃ (n : Lb.Bs), nv = .string ⟨n.toArray⟩ ∧ Hid (FolInv one X B pa pb St w0 zsl n se wr)) (fun _ se _ => 9 - sLen se)
  case atStart => exact ⟨nm, rfl, HI⟩
  case round =>
    obtain ⟨n, rfl, HI2⟩ := hrel
    obtain ⟨seen, a, s, f, al, ak, hto, hF⟩ := HI2.out
    obtain ⟨f, rfl⟩ : ∃ f', f = f' + 1 := ⟨f - 1, by have := hto.fuel; have := hto.few; omega⟩
    obtain ⟨sa, scap, rfl⟩ := ownsRow_val hF.ser
    have hcall := HO.out wr s n al ak a.asked hF.fq hF.st hF.pab hF.row (by have := hto.ask; have := hto.few; omega)
    obtain ⟨t, ht⟩ : ∃ t, one n s = t := ⟨_, rfl⟩
    rw [ht] at hcall
    have HC := Lib.hid hcall
    have HF := Lib.hid hF
    have HTo := Lib.hid hto
    have Ht := Lib.hid ht
    clear hcall hF hto ht HI2 HI
    obtain ⟨⟨⟨R, q⟩, heard⟩, s'⟩ := t
    obtain ⟨rc, rL, rS, rG, rn⟩ := R
    have hcases : q ≠ 0 ∨ (q = 0 ∧ rc ≠ 2) ∨ (q = 0 ∧ rc = 2) := by omega
    rcases hcases with hq | ⟨rfl, hrc⟩ | ⟨rfl, rfl⟩
    · have HX := Lib.hid (HTo.out.err (by rw [Ht.out]; exact hq))
      rw [Ht.out] at HX
      have hqb : (q == 0) = false := by rw [beq_eq_false_iff_ne]; exact hq
      have hqb2 : (q != 0) = true := by rw [bne, hqb]; rfl
      clear hq
      go_wp2_with (go_at_fn F; refine HC.out.mono ?_; rintro e w2 hE; obtain ⟨v, ak2, rfl, hrep, hF2, hl, hn⟩ := HF.out.heard HSt.out hE; obtain ⟨v1, v2, v3, rfl, hr1, hr2, hr3⟩ := hrep.val; clear hE hrep; dsimp only at hr1 hr2 hr3 hl hn ⊢; obtain ⟨a1, k1, rfl⟩ := hr1.val; obtain ⟨a2, k2, rfl⟩ := hr2.val; obtain ⟨a3, k3, rfl⟩ := hr3.val)
      go_ret
      have hBl := (Below.refl w2.heap.size w2).alloc (Nat.le_refl _) (.cells #[.int .i64 rc, .slice a1 rL.length k1, .slice a2 rS.length k2, .slice a3 rG.length k3, .int .i64 rn] 39)
      have hF3 := hF2.later HSt.out hBl
      rw [HX.out]
      exact ⟨rfl, al, nilS, ak2, by have := hF3.pab; rw [show (a.heard heard).code = 0 from HTo.out.zero.1]; exact this, hF3.alr, by rw [show (a.heard heard).recs = [] from HTo.out.zero.2]; exact rowR_nil _ _, hF3.row, hF3.fq, _, hF3.st⟩
    · have HX := Lib.hid (HTo.out.done (by rw [Ht.out]) (by rw [Ht.out]; exact hrc))
      rw [Ht.out] at HX
      have hqb : (rc == 2) = false := by rw [beq_eq_false_iff_ne]; exact hrc
      have hqb2 : (rc != 2) = true := by rw [bne, hqb]; rfl
      clear hrc
      go_wp2_with (go_at_fn F; refine HC.out.mono ?_; rintro e w2 hE; obtain ⟨v, ak2, rfl, hrep, hF2, hl, hn⟩ := HF.out.heard HSt.out hE; obtain ⟨v1, v2, v3, rfl, hr1, hr2, hr3⟩ := hrep.val; clear hE hrep; dsimp only at hr1 hr2 hr3 hl hn ⊢; obtain ⟨a1, k1, rfl⟩ := hr1.val; obtain ⟨a2, k2, rfl⟩ := hr2.val; obtain ⟨a3, k3, rfl⟩ := hr3.val; have HF2 := Lib.hid hF2; have H1 := Lib.hid hr1; clear hF2 hr1 hr2 hr3 hl hn)
      have hBl := (Below.refl w2.heap.size w2).alloc (Nat.le_refl _) (.cells #[.int .i64 rc, .slice a1 rL.length k1, .slice a2 rS.length k2, .slice a3 rG.length k3, .int .i64 rn] 39)
      have HF3 := Lib.hid (HF2.out.later HSt.out hBl)
      have HB3 := Lib.hid (blk_new w2 #[.int .i64 rc, .slice a1 rL.length k1, .slice a2 rS.length k2, .slice a3 rG.length k3, .int .i64 rn] 39)
      have H3 := Lib.hid ((H1.out.later hBl).mono (Nat.le_trans HF.out.lo.1 HF.out.fq.below.size))
      generalize hw3 : w2.alloc (.cells #[.int .i64 rc, .slice a1 rL.length k1, .slice a2 rS.length k2, .slice a3 rG.length k3, .int .i64 rn] 39) = w3 at *
      have hc3 := fun j => HB3.out.cell j
      have hp3 := fun j => HF3.out.pab.cell j
      have hf3 := fun j => HF3.out.pab.froz j
      have hpl := HF3.out.pab.lt
      have hne1 : w2.heap.size ≠ pa := (HB3.out.lt |> fun _ => by have := HF2.out.pab.lt; omega)
      have hne2 : pa ≠ w2.heap.size := Ne.symm hne1
      clear hBl
      go_region
      have hfin := HF3.out.fin HSt.out H3.out rc (w' := ((w3.setCell ⟨pa, 1, none⟩ (.int .i64 rc)).setCell ⟨pa, 3, none⟩ (.slice a1 rL.length k1)).drew)
        (by have := (HF3.out.pab.set (j := 1) (.int .i64 rc)).set (j := 3) (.slice a1 rL.length k1); exact this)
        ((((Below.refl B w3).setCell (p := ⟨pa, 1, none⟩) hpa (.int .i64 rc)).setCell (p := ⟨pa, 3, none⟩) hpa (.slice a1 rL.length k1)).drew)
        (fun k _ hkp => by show ((w3.setCell ⟨pa, 1, none⟩ (.int .i64 rc)).setCell ⟨pa, 3, none⟩ (.slice a1 rL.length k1)).heap[k]? = _; rw [Below.heap_setCell _ _ _ _ hkp, Below.heap_setCell _ _ _ _ hkp])
      have Hfin := Lib.hid hfin
      clear hfin hc3 hp3 hf3
      generalize ((w3.setCell ⟨pa, 1, none⟩ (.int .i64 rc)).setCell ⟨pa, 3, none⟩ (.slice a1 rL.length k1)).drew = w4 at *
      go_wp2
      go_ret
      rw [HX.out]
      exact ⟨rfl, al, _, ak2, Hfin.out⟩
    · have Hs1 := Lib.hid (show (one n s).1.1.2 = 0 by rw [Ht.out])
      have Hs2 := Lib.hid (show (one n s).1.1.1.code = 2 by rw [Ht.out])
      go_wp2_with (go_at_fn F; refine HC.out.mono ?_; rintro e w2 hE; obtain ⟨v, ak2, rfl, hrep, hF2, hl, hn⟩ := HF.out.heard HSt.out hE; obtain ⟨v1, v2, v3, rfl, hr1, hr2, hr3⟩ := hrep.val; clear hE hrep; dsimp only at hr1 hr2 hr3 hl hn ⊢; obtain ⟨a1, k1, rfl⟩ := hr1.val; obtain ⟨a2, k2, rfl⟩ := hr2.val; obtain ⟨a3, k3, rfl⟩ := hr3.val; have HF2 := Lib.hid hF2; have H1 := Lib.hid hr1; have Hn : Hid (rL ≠ []) := Lib.hid (by first | exact hn rfl rfl | exact hn trivial trivial | exact hn); have Hl := Lib.hid hl; clear hF2 hr1 hr2 hr3 hl hn)
      obtain ⟨x, L, rfl⟩ := List.exists_cons_of_ne_nil Hn.out
      have hBl := (Below.refl w2.heap.size w2).alloc (Nat.le_refl _) (.cells #[.int .i64 2, .slice a1 (x :: L).length k1, .slice a2 rS.length k2, .slice a3 rG.length k3, .int .i64 rn] 39)
      have HF3 := Lib.hid (HF2.out.later HSt.out hBl)
      have HB3 := Lib.hid (blk_new w2 #[.int .i64 2, .slice a1 (x :: L).length k1, .slice a2 rS.length k2, .slice a3 rG.length k3, .int .i64 rn] 39)
      have H3 := Lib.hid (H1.out.later hBl)
      have hne1 : w2.heap.size ≠ pa := by have := HF2.out.pab.lt; omega
      have hne2 : pa ≠ w2.heap.size := Ne.symm hne1
      have hw23 := HF2.out.fq.below.size
      generalize hw3 : w2.alloc (.cells #[.int .i64 2, .slice a1 (x :: L).length k1, .slice a2 rS.length k2, .slice a3 rG.length k3, .int .i64 rn] 39) = w3 at *
      obtain ⟨rb, ro, rfl, hrb, r0, r1, r2, r3⟩ := recs_at (k := 0) (H3.out.recs (B' := B)) rfl
      rw [Nat.zero_mul, Nat.add_zero] at r0 r1 r2 r3
      have hal := HF3.out.alr
      obtain ⟨ala, alc, rfl⟩ := hal.val
      have hL1 : (0 : Int) < ((x :: L).length : Int) := by rw [List.length_cons]; omega
      obtain ⟨ln, hln⟩ : ∃ ln, (x :: L).length = ln := ⟨_, rfl⟩
      rw [hln] at hL1
      have hL2 : 0 < ln := by omega
      have hc3 := fun j => HB3.out.cell j
      rw [hln] at hc3
      have hp3 := fun j => HF3.out.pab.cell j
      have hf3 := fun j => HF3.out.pab.froz j
      have hpl := HF3.out.pab.lt
      have hql := HB3.out.lt
      have hfarp := hal.far HF3.out.pab (by decide)
      have hBw3 : B ≤ w3.heap.size := Nat.le_trans HF3.out.lo.1 HF3.out.fq.below.size
      have hna : a.aliases.length ≤ 8 := by have := HTo.out.als; have := HTo.out.few; omega
      clear hBl hw3
      obtain ⟨xn, xk, xt, xd⟩ := x
      dsimp only at *
      obtain ⟨i0, hi, hz0, hz1, hz2⟩ := info_parts info39
      have hlow : ∀ g, (Value.slice ala a.aliases.length alc).ownBlock = some g → g < wr.heap.size := fun g hg => HF.out.alr.lt g hg
      have Hlow := Lib.hid hlow
      clear hlow
      go_cut [] from 14 to 69 (fun wx => FolMidA B pa pb St w0 wr zsl ak2 (.slice sa seen.length scap) (a.aliases ++ [⟨xn, xk, xt, xd⟩]) (a.asked ++ heard) seen s' (.slice (some ⟨rb, ro, none⟩) ln k1) (⟨xn, xk, xt, xd⟩ :: L) w2.heap.size #[.int .i64 2, .slice (some ⟨rb, ro, none⟩) ln k1, .slice a2 rS.length k2, .slice a3 rG.length k3, .int .i64 rn] wx)
      case first =>
        go_region_law ((refine step_append_lies _ (by rfl) _ _ _ (by rfl) B 43 i0 _ 4 48 Tryz.underlying22 hi hz0 hz1 hz2 rfl (by omega) (.slice ala a.aliases.length alc) a.aliases.length (a.aliases.flatMap recV) (by rfl) ((hal.alloc _).drew) ⟨w3.heap.size, 0, none⟩ 1 1 [.string ⟨xn.toArray⟩, .int .i64 xk, .int .i64 xt, .string ⟨xd.toArray⟩] (by rfl) (by rfl) (World.news_of_block (cs := #[.string ⟨xn.toArray⟩, .int .i64 xk, .int .i64 xt, .string ⟨xd.toArray⟩]) (t := 43) (fr := (0, 0)) (heap_alloc_new w3 _)) (by simp [Value.oneCell']) (by omega) (by unfold maxLen; omega) (by omega) (by simp; omega) (w3.heap.size + 1) (by simp) ?_; intro gg cap1 w4 hown4 hg4 hat hlt4; have hg5 : w3.grownBy w4 (Value.slice ala a.aliases.length alc).ownBlock := (World.grownBy_alloc w3 (.cells #[.string ⟨xn.toArray⟩, .int .i64 xk, .int .i64 xt, .string ⟨xd.toArray⟩] 43) _).trans ⟨hg4.os, hg4.tape, hg4.output, hg4.size, hg4.block⟩; have e0 : w4.cell? ⟨pa, 2, none⟩ = some (.slice ala a.aliases.length alc) := (World.cell?_of_block (hg5.block pa hpl (Ne.symm hfarp))).trans (hp3 2); have e1 : w4.frozen? ⟨pa, 2, none⟩ = false := (World.frozen?_of_block (hg5.block pa hpl (Ne.symm hfarp))).trans (hf3 2)))
        all_goals
          have HM := Lib.hid (show FolMidA B pa pb St w0 wr zsl ak2 (.slice sa seen.length scap) (a.aliases ++ [⟨xn, xk, xt, xd⟩]) (a.asked ++ heard) seen s' (.slice (some ⟨rb, ro, none⟩) ln k1) (⟨xn, xk, xt, xd⟩ :: L) w2.heap.size #[.int .i64 2, .slice (some ⟨rb, ro, none⟩) ln k1, .slice a2 rS.length k2, .slice a3 rG.length k3, .int .i64 rn] (w4.setCell ⟨pa, 2, none⟩ (.slice (some ⟨gg, 0, none⟩) (a.aliases.length + 1) cap1)) from
            ⟨_, HF3.out.pushA HSt.out hown4 hg5 (hat.imp_right (by omega)), by have := HF3.out.keepA hg5 H3.out Hlow.out HB3.out (.slice (some ⟨gg, 0, none⟩) (a.aliases.length + 1) cap1); rw [hln] at this; exact this⟩)
          go_wp2
          go_meet
          exact HM.out
      case rest =>
        obtain ⟨al4, hF4, hr4, hq4⟩ := hcut
        have HF4 := Lib.hid hF4
        have hser := hF4.ser
        have hq4c := fun j => hq4.cell j
        obtain ⟨rb', ro', hre, hrb4, -, -, -, q3⟩ := recs_at (k := 0) (hr4.recs (B' := B)) rfl
        injection hre with hre
        injection hre with g1 g2
        subst g1 g2
        rw [Nat.zero_mul, Nat.add_zero] at q3
        have hseen : seen ≠ [] := by rintro rfl; have := HTo.out.als; simp at this
        have HCS := Lib.hid (seen_any hser hseen xd)
        have hlns : seen.length ≤ 8 := HTo.out.few
        clear hF4 hr4 hq4 hc3 hp3 hf3 hal hfarp r0 r1 r2 r3 hi hz0 hz1 hz2 hpl hql hrb
        have hcases : (xd ∈ seen) ∨ (xd ∉ seen ∧ seen.length = 8) ∨ (xd ∉ seen ∧ seen.length ≠ 8) := by
          by_cases h1 : xd ∈ seen
          · exact .inl h1
          · by_cases h2 : seen.length = 8
            · exact .inr (.inl ⟨h1, h2⟩)
            · exact .inr (.inr ⟨h1, h2⟩)
        have hsl : (seen.length : Int) ≤ 8 := by omega
        rcases hcases with h1 | ⟨h1, h2⟩ | ⟨h1, h2⟩
        · have HX := Lib.hid (HTo.out.loop Hs1.out Hs2.out (by rw [Ht.out]; show decide (xd ∈ seen ∨ seen.length = 8) = true; rw [decide_eq_true_iff]; exact .inl h1))
          rw [Ht.out] at HX
          rw [decide_eq_true h1] at HCS
          clear h1
          go_wp2_with fail
          refine HCS.out.mono ?_
          rintro e w5 ⟨rfl, rfl⟩
          go_wp2
          go_ret
          rw [HX.out]
          exact ⟨rfl, al4, nilS, ak2, by have := HF4.out.pab; show Blk _ pa #[zsl, .int .i64 a.code, al4, nilS, ak2] _; rw [HTo.out.zero.1]; exact this, HF4.out.alr, by show RowR B _ nilS a.recs; rw [HTo.out.zero.2]; exact rowR_nil _ _, HF4.out.row, HF4.out.fq, _, HF4.out.st⟩
        · have HX := Lib.hid (HTo.out.loop Hs1.out Hs2.out (by rw [Ht.out]; show decide (xd ∈ seen ∨ seen.length = 8) = true; rw [decide_eq_true_iff]; exact .inr h2))
          rw [Ht.out] at HX
          rw [decide_eq_false h1] at HCS
          have hb8 : ((seen.length : Int) == 8) = true := by rw [beq_iff_eq]; omega
          clear h1 h2
          go_wp2_with fail
          refine HCS.out.mono ?_
          rintro e w5 ⟨rfl, rfl⟩
          go_wp2
          go_ret
          rw [HX.out]
          exact ⟨rfl, al4, nilS, ak2, by have := HF4.out.pab; show Blk _ pa #[zsl, .int .i64 a.code, al4, nilS, ak2] _; rw [HTo.out.zero.1]; exact this, HF4.out.alr, by show RowR B _ nilS a.recs; rw [HTo.out.zero.2]; exact rowR_nil _ _, HF4.out.row, HF4.out.fq, _, HF4.out.st⟩
        · have HN := HTo.out.next Hs1.out Hs2.out (by rw [Ht.out]; show decide (xd ∈ seen ∨ seen.length = 8) = false; rw [decide_eq_false_iff_not]; exact fun e => e.elim h1 h2) (by rw [Ht.out]; exact Hl.out)
          rw [Ht.out] at HN
          have HN := Lib.hid HN
          rw [decide_eq_false h1] at HCS
          have hb8 : ((seen.length : Int) == 8) = false := by rw [beq_eq_false_iff_ne]; omega
          clear h1 h2
          go_wp2_with fail
          refine HCS.out.mono ?_
          rintro e w5 ⟨rfl, rfl⟩
          obtain ⟨j0, hj, hy0, hy1, hy2⟩ := info_parts' info9
          have hB5 : B ≤ w5.heap.size := Nat.le_trans HF4.out.lo.1 HF4.out.fq.below.size
          go_wp2_with (at_builtin; go_loud (refine wpList_append_lies _ rfl _ _ 52 rfl B 9 j0 _ 1 16 Tryz.underlying52 hj hy0 hy1 hy2 rfl (by decide) (.slice sa seen.length scap) seen.length (strV seen) rfl (hser.alloc _) ⟨w5.heap.size, 0, none⟩ 1 1 [.string ⟨xd.toArray⟩] rfl rfl ?c1 ?c2 (by decide) ?c3 ?c4 ?c5 (w5.heap.size + 1) ?c6 ?_))
          case c1 => exact World.news_of_block (cs := #[.string ⟨xd.toArray⟩]) (fr := (0, 0)) (heap_alloc_new w5 _)
          case c2 => intro u hu; simp at hu; subst hu; rfl
          case c3 => unfold maxLen; omega
          case c4 => omega
          case c5 => simp; omega
          case c6 => simp
          intro gg cap1 w6 hown6 hg6 hat6 hlt6
          have HS6 := Lib.hid (HF4.out.pushS HSt.out (x := xd) hown6 ((World.grownBy_alloc w5 (.cells #[.string ⟨xd.toArray⟩] 9) _).trans hg6) (hat6.imp_right (by omega)))
          clear hown6 hg6 hat6 hlt6
          go_wp2
          exact ⟨⟨xd, rfl, ⟨seen ++ [xd], _, s', f, al4, ak2, HN.out, HS6.out⟩⟩, by simp [sLen]; omega⟩
end Go.Proofs.YtajllcbjgndcpaaGreatDoor

namespace Go.Proofs.YtajllcbjgndcpaaGreatDoor
open Go.RowKit Go.Maps

/-- What lies beside the asker in Resolve. -/
structure StR (b9 b5 pa : Nat) (kd : Int) (_ : Unit) (g : Option Nat) (W : World) : Prop where
  h9 : Blk W b9 #[.pointer (some ⟨pa, 0, none⟩)] 105
  h5 : Blk W b5 #[.int .i64 kd] 3
  n9 : g ≠ some b9 ∧ b9 ≠ pa
  n5 : g ≠ some b5 ∧ b5 ≠ pa
theorem StR.ok (B b9 b5 pa : Nat) (kd : Int) : StOk B pa b9 (StR b9 b5 pa kd) := by
  refine ⟨fun s g g' W W' h hB hk hg => ?_, fun s g W h cs T fr e => ?_⟩
  · have e9 : W'.heap[b9]? = W.heap[b9]? := hk b9 h.h9.lt h.n9.2 h.n9.1 fun cs fr e => absurd (h.h9.uniq e).2 (by decide)
    have e5 : W'.heap[b5]? = W.heap[b5]? := hk b5 h.h5.lt h.n5.2 h.n5.1 fun cs fr e => absurd (h.h5.uniq e).2 (by decide)
    refine ⟨e9.trans h.h9, e5.trans h.h5, ⟨fun e => ?_, h.n9.2⟩, ⟨fun e => ?_, h.n5.2⟩⟩
    · rcases hg b9 e with e | e
      · exact h.n9.1 e
      · have := h.h9.lt; omega
    · rcases hg b5 e with e | e
      · exact h.n5.1 e
      · have := h.h5.lt; omega
  · have := (h.h9.uniq e).2
    subst this
    decide
/-- A frame with no block beside the asker's. -/
theorem Fq.any {B pa pb : Nat} {ak : Value} {w w' : World} (h : Fq B pa pb ak w w') (hpb : w.heap.size ≤ pb) (pb' : Nat) : Fq B pa pb' ak w w' :=
  ⟨h.below, fun k hk hp _ hn ht => h.kept k hk hp (by omega) hn ht⟩

set_option maxHeartbeats 6400000 in
set_option maxRecDepth 100000 in
theorem resolve1_any (B pa b9 b5 : Nat) (za : Option Addr) (zc : Nat) (zs : List ZV) (kd : Int) (hkd : kd ≠ 0) (n : Lb.Bs) (al ak : Value) (asked : List Lb.Bs) (W : World) (henv : ∀ W', Below B W W' → EnvZ W') (hT : Vn.Tree (zs.map ZV.z))
    (hZ : Zones B W (.slice za zs.length zc) zs) (hst : StR b9 b5 pa kd () al.ownBlock W) (hp : Blk W pa #[.slice za zs.length zc, .int .i64 0, al, nilS, ak] 107) (hrow : RowS B W ak asked) (hfew : asked.length ≤ 100000) (hpa : B ≤ pa) (hB : B ≤ W.heap.size) :
    Calls Tryz.prog 65 #[.string ⟨n.toArray⟩, .pointer (some ⟨b9, 0, none⟩), .pointer (some ⟨b5, 0, none⟩)] W
      (OneEnd B pa b9 (StR b9 b5 pa kd) (Vn.plainOne (zs.map ZV.z) kd n ()).1 () (.slice za zs.length zc) al ak asked W) := by
  have hBa := (Below.refl W.heap.size W).alloc (Nat.le_refl _) (.cells zeroRep 39)
  have hask := ask_any B pa (W.heap.size + 1) ak (.int .i64 0) al nilS za zc zs asked n kd (W.alloc (.cells zeroRep 39)) (fun W' hW' => henv W' ((hBa.mono hB).trans hW')) hT (hZ.later hBa) (hp.later hBa)
    (fun cs T fr e => by have := (Array.getElem?_eq_some_iff.1 e).1; simp at this) hpa (by simp; omega) (hrow.later hBa) hfew
  have hq := blk_new W zeroRep 39
  have h9 := fun j => hst.h9.cell j
  have h5 := fun j => hst.h5.cell j
  have h9l := hst.h9.lt
  have h5l := hst.h5.lt
  have HK := Lib.hid hask
  have HQ := Lib.hid hq
  have HST := Lib.hid hst
  have HP := Lib.hid hp
  have HBa := Lib.hid hBa
  have HROW := Lib.hid hrow
  have hlen : (Vn.ask (zs.map ZV.z) n kd).2.length ≤ 100 := askF_len _ _ _ _ _
  have hrecs : (Vn.ask (zs.map ZV.z) n kd).1.2 = 0 → (Vn.ask (zs.map ZV.z) n kd).1.1.code = 2 → (Vn.ask (zs.map ZV.z) n kd).1.1.recs ≠ [] := by
    intro h1 h2
    obtain ⟨y, -, hy, -, -⟩ := (Vn.ask_down hT n kd).2 h1
    rw [hy] at h2 ⊢
    exact alias_recs hkd h2
  have HL := Lib.hid (And.intro hlen hrecs)
  show Calls _ _ _ _ (OneEnd B pa b9 (StR b9 b5 pa kd) (Vn.ask (zs.map ZV.z) n kd) () (.slice za zs.length zc) al ak asked W)
  obtain ⟨t, ht⟩ : ∃ t, Vn.ask (zs.map ZV.z) n kd = t := ⟨_, rfl⟩
  rw [ht] at HK HL ⊢
  clear hask hq hst hp hBa henv hZ hT hlen hrecs ht hrow
  obtain ⟨⟨R, q⟩, heard⟩ := t
  obtain ⟨rc, rL, rS, rG, rn⟩ := R
  unfold AskEnd at HK
  unfold zeroRep at HK
  unfold OneEnd AskEnd
  dsimp only at HK ⊢
  go_enter Tryz.func65, Tryz.ntmps65
  go_wp2_with fail
  refine HK.out.mono ?_
  rintro e w2 ⟨v, ak', rfl, hrep, hp2, hrow2, hfq, hown⟩
  have hpl := HP.out.lt
  have hsz1 : (W.alloc (.cells zeroRep 39)).heap.size = W.heap.size + 1 := by simp
  have hsz2 : (W.alloc (.cells #[.int .i64 0, .slice none 0 0, .slice none 0 0, .slice none 0 0, .int .i64 0] 39)).heap.size = W.heap.size + 1 := by simp
  have hq2 : Blk w2 W.heap.size zeroRep 39 := hfq.obj HQ.out (by omega) (by omega) (fun e => by have := HROW.out.lt _ e; omega) (fun cs fr e => by injection e with _ e _; exact absurd e (by decide))
  have h92 : Blk w2 b9 #[.pointer (some ⟨pa, 0, none⟩)] 105 := hfq.obj (HST.out.h9.later HBa.out) HST.out.n9.2 (by omega) (HROW.out.far HST.out.h9 (by decide)) (fun cs fr e => by injection e with _ e _; exact absurd e (by decide))
  have h52 : Blk w2 b5 #[.int .i64 kd] 3 := hfq.obj (HST.out.h5.later HBa.out) HST.out.n5.2 (by omega) (HROW.out.far HST.out.h5 (by decide)) (fun cs fr e => by injection e with _ e _; exact absurd e (by decide))
  obtain ⟨v1, v2, v3, rfl, hr1, hr2, hr3⟩ := hrep.val
  dsimp only at hr1 hr2 hr3 ⊢
  obtain ⟨a1, k1, rfl⟩ := hr1.val
  obtain ⟨a2, k2, rfl⟩ := hr2.val
  obtain ⟨a3, k3, rfl⟩ := hr3.val
  have hother : ∀ k, k ≠ W.heap.size → (five w2 W.heap.size (.int .i64 rc) (.slice a1 rL.length k1) (.slice a2 rS.length k2) (.slice a3 rG.length k3) (.int .i64 rn)).heap[k]? = w2.heap[k]? := fun k hk => by
    unfold five
    rw [Below.heap_setCell _ _ _ _ hk, Below.heap_setCell _ _ _ _ hk, Below.heap_setCell _ _ _ _ hk, Below.heap_setCell _ _ _ _ hk, Below.heap_setCell _ _ _ _ hk]
  have hend : (∃ v ak', (Ending.returned (.tuple #[.agg #[.int .i64 rc, .slice a1 rL.length k1, .slice a2 rS.length k2, .slice a3 rG.length k3, .int .i64 rn], .int .i64 q])) = .returned (.tuple #[v, .int .i64 q]) ∧ RepR W.heap.size (five w2 W.heap.size (.int .i64 rc) (.slice a1 rL.length k1) (.slice a2 rS.length k2) (.slice a3 rG.length k3) (.int .i64 rn)) v { code := rc, recs := rL, servers := rS, glue := rG, neg := rn } ∧ Blk (five w2 W.heap.size (.int .i64 rc) (.slice a1 rL.length k1) (.slice a2 rS.length k2) (.slice a3 rG.length k3) (.int .i64 rn)) pa #[.slice za zs.length zc, .int .i64 0, al, nilS, ak'] 107 ∧ RowS B (five w2 W.heap.size (.int .i64 rc) (.slice a1 rL.length k1) (.slice a2 rS.length k2) (.slice a3 rG.length k3) (.int .i64 rn)) ak' (asked ++ heard) ∧ Fq B pa b9 ak W (five w2 W.heap.size (.int .i64 rc) (.slice a1 rL.length k1) (.slice a2 rS.length k2) (.slice a3 rG.length k3) (.int .i64 rn)) ∧ (∀ g, ak'.ownBlock = some g → ak.ownBlock = some g ∨ W.heap.size ≤ g)) ∧ StR b9 b5 pa kd () al.ownBlock (five w2 W.heap.size (.int .i64 rc) (.slice a1 rL.length k1) (.slice a2 rS.length k2) (.slice a3 rG.length k3) (.int .i64 rn)) := by
    refine ⟨⟨_, ak', rfl, ⟨_, _, _, rfl, (hr1.five (by omega)).mono (by omega), (hr2.five (by omega)).mono (by omega), (hr3.five (by omega)).mono (by omega)⟩, (hother pa (by omega)).trans hp2, hrow2.kept fun k hk => hother k ?_, ⟨?_, ?_⟩, fun g hg => ?_⟩, ⟨(hother b9 (by omega)).trans h92, (hother b5 (by omega)).trans h52, HST.out.n9, HST.out.n5⟩⟩
    · rintro rfl
      exact hrow2.far hq2 (by decide) hk
    · exact five_lo ((HBa.out.mono hB).trans hfq.below) hB
    · intro k hk hp _ hn ht
      have e1 := HBa.out.block k hk
      rw [hother k (by omega), hfq.kept k (by omega) hp (by omega) hn (fun cs fr e => ht cs fr (e1.symm.trans e))]
      exact e1
    · rcases hown g hg with e | e
      · exact .inl e
      · exact .inr (by omega)
  have HE := Lib.hid hend
  have hq2c := fun j => hq2.cell j
  have hq2f := fun j => hq2.froz j
  have hq2l := hq2.lt
  have HQ2 := Lib.hid hq2
  unfold zeroRep at hq2c
  clear hend hother hr1 hr2 hr3 hrep hp2 hrow2 hfq hown h92 h52 hq2 h9 h5 hsz1 hsz2
  generalize rL.length = n1 at *
  generalize rS.length = n2 at *
  generalize rG.length = n3 at *
  go_wp2
  refine bodyPost_ret (results_cell_pair rfl _ _ W.heap.size 39 _ (0, 0) _ rfl (five_blk HQ2.out) Tryz.underlying39 rfl (by kernel_rfl)) rfl ?_
  exact ⟨HE.out.1, HE.out.2, HL.out.1, HL.out.2⟩
end Go.Proofs.YtajllcbjgndcpaaGreatDoor

namespace Go.Proofs.YtajllcbjgndcpaaGreatDoor
open Go.RowKit Go.Maps

theorem Recs.mono {B B' : Nat} {w : World} {v : Value} {l : List Cb.Rec} (h : Recs B w v l) (hb : B ≤ B') : Recs B' w v l := by
  obtain ⟨a, cap, h1, h2, h3, h4⟩ := h
  refine ⟨a, cap, h1, h2, h3, fun hn => ?_⟩
  obtain ⟨b, o, h5, h6, h7, h8⟩ := h4 hn
  exact ⟨b, o, h5, h6, h7.imp_left (by omega), h8⟩
theorem Zones.mono {B B' : Nat} {w : World} {v : Value} {zs : List ZV} (h : Zones B w v zs) (hb : B ≤ B') : Zones B' w v zs := by
  refine ⟨?_, fun x hx => ⟨(h.recs x hx).1.mono hb, (h.recs x hx).2⟩⟩
  obtain ⟨a, cap, h1, h2, h3, h4⟩ := h.row
  refine ⟨a, cap, h1, h2, h3, fun hn => ?_⟩
  obtain ⟨b, o, h5, h6, h7, h8⟩ := h4 hn
  exact ⟨b, o, h5, h6, h7.imp_left (by omega), h8⟩
/-- A resolution's outcome. -/
structure ResR (B : Nat) (w : World) (v : Value) (r : Vn.Res) : Prop where
  val : ∃ v1 v2 v3, v = .agg #[.int .i64 r.code, v1, v2, v3] ∧ RowR B w v1 r.aliases ∧ RowR B w v2 r.recs ∧ RowS B w v3 r.asked
theorem ResR.later {B : Nat} {w w' : World} {v : Value} {r : Vn.Res} (h : ResR B w v r) (hb : Below w.heap.size w w') : ResR B w' v r := by
  obtain ⟨v1, v2, v3, hv, h1, h2, h3⟩ := h.val
  exact ⟨v1, v2, v3, hv, h1.later hb, h2.later hb, h3.later hb⟩
def ResEnd (x : Vn.Res × Int) (w0 : World) (e : Ending) (w' : World) : Prop := ∃ v, e = .returned (.tuple #[v, .int .i64 x.2]) ∧ ResR w0.heap.size w' v x.1 ∧ Below w0.heap.size w0 w'
theorem resolve_bad {zs : List Zn.Zone} {nm : Lb.Bs} {kd : Int} (h : checkQ zs nm kd ≠ 0) : Vn.resolve zs nm kd = ({}, checkQ zs nm kd) := by
  unfold checkQ at h ⊢
  unfold Vn.resolve
  by_cases h1 : Vn.checkV zs ≠ 0
  · rw [if_pos h1, if_pos h1]
  · rw [if_neg h1] at h ⊢
    rw [if_neg h1, if_pos h]
theorem resolve_good {zs : List Zn.Zone} {nm : Lb.Bs} {kd : Int} (h : checkQ zs nm kd = 0) : Vn.Tree zs ∧ kd ≠ 0 ∧ Vn.resolve zs nm kd = Vn.fault (Vn.followF (Vn.plainOne zs kd) 9 nm [nm] {} ()).1.2 (Vn.followF (Vn.plainOne zs kd) 9 nm [nm] {} ()).1.1 := by
  unfold checkQ at h
  by_cases h1 : Vn.checkV zs ≠ 0
  · rw [if_pos h1] at h; exact absurd h h1
  · rw [if_neg h1] at h
    refine ⟨Vn.checkV_ok (by simpa using h1), ?_, ?_⟩
    · rintro rfl
      unfold Vn.question at h
      split at h
      · rename_i h2; exact h2 h
      · split at h
        · cases h
        · rw [if_pos (by omega)] at h; cases h
    · unfold Vn.resolve
      rw [if_neg h1, if_neg (by simp [h])]
abbrev four (w : World) (s : Nat) (v0 v1 v2 v3 : Value) : World := (((w.setCell ⟨s, 0, none⟩ v0).setCell ⟨s, 1, none⟩ v1).setCell ⟨s, 2, none⟩ v2).setCell ⟨s, 3, none⟩ v3
theorem four_blk {w : World} {s : Nat} {t : TypeId} {z0 z1 z2 z3 v0 v1 v2 v3 : Value} (h : Blk w s #[z0, z1, z2, z3] t) : Blk (four w s v0 v1 v2 v3) s #[v0, v1, v2, v3] t := by
  unfold Blk
  rw [heap_setCell_same _ _ 3 _ _ _ (heap_setCell_same _ _ 2 _ _ _ (heap_setCell_same _ _ 1 _ _ _ (heap_setCell_same _ _ 0 _ _ _ h)))]
  rfl
theorem four_other {w : World} {s k : Nat} {v0 v1 v2 v3 : Value} (hk : k ≠ s) : (four w s v0 v1 v2 v3).heap[k]? = w.heap[k]? := by
  unfold four
  rw [Below.heap_setCell _ _ _ _ hk, Below.heap_setCell _ _ _ _ hk, Below.heap_setCell _ _ _ _ hk, Below.heap_setCell _ _ _ _ hk]
theorem four_lo {B : Nat} {a w : World} {s : Nat} {v0 v1 v2 v3 : Value} (h : Below B a w) (hs : B ≤ s) : Below B a (four w s v0 v1 v2 v3) := by
  refine Below.setCell ?_ hs _
  refine Below.setCell ?_ hs _
  refine Below.setCell ?_ hs _
  exact Below.setCell h hs _
theorem enters_res1 : ∀ args w, (callFunc 65 args).run Tryz.prog w = .ok (.enter 65 args) w := fun args w => enters_of Tryz.func65 (by kernel_rfl) rfl args w
theorem rowS_nil (B : Nat) (w : World) : RowS B w nilS [] := World.ownsRow_nil _ _ _ _
def zeroRes : Array Value := #[.int .i64 0, nilS, nilS, nilS]

set_option maxHeartbeats 12800000 in
set_option maxRecDepth 100000 in
theorem resolve_any (za : Option Addr) (zc : Nat) (zs : List ZV) (nm : Lb.Bs) (kd : Int) (w : World) (henv : EnvZ w) (hZ : Zones w.heap.size w (.slice za zs.length zc) zs) :
    Calls Tryz.prog 28 #[.slice za zs.length zc, .string ⟨nm.toArray⟩, .int .i64 kd] w (ResEnd (Vn.resolve (zs.map ZV.z) nm kd) w) := by
  have hBa := ((Below.refl w.heap.size w).alloc (Nat.le_refl _) (.cells #[.int .i64 kd] 3)).alloc (by simp) (.cells zeroRes 54)
  have hsz2 : ((w.alloc (.cells #[.int .i64 kd] 3)).alloc (.cells zeroRes 54)).heap.size = w.heap.size + 2 := by simp
  have h5 : Blk ((w.alloc (.cells #[.int .i64 kd] 3)).alloc (.cells zeroRes 54)) w.heap.size #[.int .i64 kd] 3 := (blk_new w _ _).alloc _
  have h6 : Blk ((w.alloc (.cells #[.int .i64 kd] 3)).alloc (.cells zeroRes 54)) (w.heap.size + 1) zeroRes 54 := blk_second w _ _ _
  have HCQ := Lib.hid (checkQ_any w.heap.size za zc zs nm kd ((w.alloc (.cells #[.int .i64 kd] 3)).alloc (.cells zeroRes 54)) (henv.later hBa) (hZ.later hBa))
  unfold IntEnd at HCQ
  obtain ⟨q, hq⟩ : ∃ q, checkQ (zs.map ZV.z) nm kd = q := ⟨_, rfl⟩
  rw [hq] at HCQ
  have HEnv := Lib.hid henv
  have HZ := Lib.hid hZ
  have H5 := Lib.hid h5
  have H6 := Lib.hid h6
  have HBa := Lib.hid hBa
  have Hsz2 := Lib.hid hsz2
  unfold ResEnd
  clear henv hZ h5 h6 hBa hsz2
  by_cases hq0 : q = 0
  · subst hq0
    obtain ⟨hT, hkd, hres⟩ := resolve_good hq
    rw [hres]
    obtain ⟨X, hX⟩ : ∃ X, Vn.followF (Vn.plainOne (zs.map ZV.z) kd) 9 nm [nm] {} () = X := ⟨_, rfl⟩
    rw [hX]
    obtain ⟨⟨⟨xc, xa, xr, xs⟩, er⟩, ⟨⟩⟩ := X
    obtain ⟨Y, hY⟩ : ∃ Y, Vn.fault er ⟨xc, xa, xr, xs⟩ = Y := ⟨_, rfl⟩
    dsimp only
    rw [hY]
    have HY := Lib.hid hY
    clear hY
    have HX := Lib.hid hX
    have HT := Lib.hid hT
    have Hkd := Lib.hid hkd
    clear hX hres hT hkd hq
    unfold zeroRes at HCQ
    go_enter Tryz.func28, Tryz.ntmps28
    go_wp2_with fail
    refine HCQ.out.mono ?_
    rintro e w3 ⟨rfl, hB3⟩
    have hB3' := HBa.out.trans (hB3.mono HBa.out.size)
    have HB3 := Lib.hid hB3'
    have h53 := H5.out.later hB3
    have h63 := H6.out.later hB3
    have H53 := Lib.hid h53
    have H63 := Lib.hid h63
    have hsz3 : w.heap.size + 2 ≤ w3.heap.size := by have := hB3.size; have := Hsz2.out; unfold zeroRes at this; omega
    have hc5 := fun j => h53.cell j
    have hlt5 := h53.lt
    clear hB3' h53 h63
    have hp5 : Blk ((w3.alloc (.cells #[.slice za zs.length zc, .int .i64 0, nilS, nilS, nilS] 107)).alloc (.cells #[.pointer (some ⟨w3.heap.size, 0, none⟩)] 105)) w3.heap.size #[.slice za zs.length zc, .int .i64 0, nilS, nilS, nilS] 107 := (blk_new w3 _ _).alloc _
    have h95 : Blk ((w3.alloc (.cells #[.slice za zs.length zc, .int .i64 0, nilS, nilS, nilS] 107)).alloc (.cells #[.pointer (some ⟨w3.heap.size, 0, none⟩)] 105)) (w3.heap.size + 1) #[.pointer (some ⟨w3.heap.size, 0, none⟩)] 105 := blk_second w3 _ _ _
    have hB35 := ((Below.refl w3.heap.size w3).alloc (Nat.le_refl _) (.cells #[.slice za zs.length zc, .int .i64 0, nilS, nilS, nilS] 107)).alloc (by simp) (.cells #[.pointer (some ⟨w3.heap.size, 0, none⟩)] 105)
    have hst5 : StR (w3.heap.size + 1) w.heap.size w3.heap.size kd () none ((w3.alloc (.cells #[.slice za zs.length zc, .int .i64 0, nilS, nilS, nilS] 107)).alloc (.cells #[.pointer (some ⟨w3.heap.size, 0, none⟩)] 105)) :=
      ⟨h95, H53.out.later hB35, ⟨by simp, by omega⟩, ⟨by simp, by omega⟩⟩
    have hsz5 : w3.heap.size + 2 = ((w3.alloc (.cells #[.slice za zs.length zc, .int .i64 0, nilS, nilS, nilS] 107)).alloc (.cells #[.pointer (some ⟨w3.heap.size, 0, none⟩)] 105)).heap.size := by simp
    have h65 := Lib.hid (H63.out.later hB35)
    have hBw5 := Lib.hid (HB3.out.trans (hB35.mono (by omega)))
    have hZ5 := (HZ.out.later HB3.out).later hB35
    have hrun := follow_any (Vn.plainOne (zs.map ZV.z) kd) (StR (w3.heap.size + 1) w.heap.size w3.heap.size kd) w.heap.size w3.heap.size (w3.heap.size + 1) 65 #[.pointer (some ⟨w3.heap.size + 1, 0, none⟩), .pointer (some ⟨w.heap.size, 0, none⟩)] (.slice za zs.length zc) nm kd ()
      ((w3.alloc (.cells #[.slice za zs.length zc, .int .i64 0, nilS, nilS, nilS] 107)).alloc (.cells #[.pointer (some ⟨w3.heap.size, 0, none⟩)] 105)) enters_res1 (StR.ok _ _ _ _ _) (by omega) (by omega) hp5 hst5
      (fun W s n al ak asked hf hs hp hr hl => resolve1_any w.heap.size w3.heap.size (w3.heap.size + 1) w.heap.size za zc zs kd Hkd.out n al ak asked W (fun W' hW' => HEnv.out.later (hBw5.out.trans (hf.below.trans hW'))) HT.out
        (hZ5.fq hf hp5 (fun cs T fr e => by have := (h95.uniq e).2; subst this; decide) (rowS_nil _ _)) hs hp hr hl (by omega) (Nat.le_trans (by omega) hf.below.size))
    rw [HX.out] at hrun
    have HR := Lib.hid hrun
    have H5p := Lib.hid hp5
    have Hsz5 := Lib.hid hsz5
    unfold FolEnd at HR
    clear hp5 h95 hB35 hst5 hZ5 hrun hsz5
    dsimp only at HR
    by_cases he : er = 0
    · subst he
      go_wp2_with fail
      refine HR.out.mono ?_
      rintro e w6 ⟨rfl, al, rs, ak, hp6, hal, hrs, hak, hfq, g, hst6⟩
      obtain ⟨a1, k1, rfl⟩ := hal.val
      obtain ⟨a2, k2, rfl⟩ := hrs.val
      obtain ⟨a3, k3, rfl⟩ := ownsRow_val hak
      have h66 : Blk w6 (w.heap.size + 1) zeroRes 54 := hfq.obj h65.out (by omega) (by omega) (by simp [Value.ownBlock]) (fun cs fr e => by injection e with _ e _; exact absurd e (by decide))
      have hend : ResR w.heap.size (four w6 (w.heap.size + 1) (.int .i64 xc) (.slice a1 xa.length k1) (.slice a2 xr.length k2) (.slice a3 xs.length k3)) (.agg #[.int .i64 xc, .slice a1 xa.length k1, .slice a2 xr.length k2, .slice a3 xs.length k3]) ⟨xc, xa, xr, xs⟩ :=
        ⟨_, _, _, rfl, hal.kept fun k hk => four_other (by obtain ⟨cur, hc⟩ := hal.obj hk; exact cells_ne hc h66 (by decide)), hrs.kept fun k hk => four_other (by obtain ⟨cur, hc⟩ := hrs.obj hk; exact cells_ne hc h66 (by decide)), hak.kept fun k hk => four_other (by obtain ⟨cur, hc⟩ := hak.obj hk; exact cells_ne hc h66 (by decide))⟩
      have hlo : Below w.heap.size w (four w6 (w.heap.size + 1) (.int .i64 xc) (.slice a1 xa.length k1) (.slice a2 xr.length k2) (.slice a3 xs.length k3)) := four_lo (hBw5.out.trans hfq.below) (by omega)
      have Hend := Lib.hid (And.intro hend hlo)
      have H66 := Lib.hid h66
      have hq6 := fun j => h66.cell j
      have hf6 := fun j => h66.froz j
      have hl6 := h66.lt
      have h9c := fun j => hst6.h9.cell j
      have hpc := fun j => hp6.cell j
      have hpl6 := hp6.lt
      unfold zeroRes at hq6
      clear hend hlo h66 hal hrs hak hfq hst6 hp6 hc5
      generalize hn1 : xa.length = n1 at *
      generalize hn2 : xr.length = n2 at *
      generalize hn3 : xs.length = n3 at *
      clear hn1 hn2 hn3
      go_wp2
      refine bodyPost_ret (results_cell_pair rfl _ _ (w.heap.size + 1) 54 _ (0, 0) _ rfl (four_blk H66.out) Tryz.underlying54 rfl (by kernel_rfl)) rfl ?_
      rw [show Y = (⟨xc, xa, xr, xs⟩, 0) by rw [← HY.out]; rfl]
      exact ⟨_, rfl, Hend.out.1, Hend.out.2⟩
    · have HY2 := Lib.hid (show Y = ({}, er) by rw [← HY.out]; unfold Vn.fault; rw [if_pos he])
      have heb : (er == 0) = false := by rw [beq_eq_false_iff_ne]; exact he
      have heb2 : (er != 0) = true := by rw [bne, heb]; rfl
      clear he
      go_wp2_with fail
      refine HR.out.mono ?_
      rintro e w6 ⟨rfl, al, rs, ak, hp6, hal, hrs, hak, hfq, g, hst6⟩
      have h66 : Blk w6 (w.heap.size + 1) zeroRes 54 := hfq.obj h65.out (by omega) (by omega) (by simp [Value.ownBlock]) (fun cs fr e => by injection e with _ e _; exact absurd e (by decide))
      have hlo : Below w.heap.size w (four w6 (w.heap.size + 1) (.int .i64 0) nilS nilS nilS) := four_lo (hBw5.out.trans hfq.below) (by omega)
      have Hlo := Lib.hid hlo
      have H66 := Lib.hid h66
      have hq6 := fun j => h66.cell j
      have hf6 := fun j => h66.froz j
      have hl6 := h66.lt
      unfold zeroRes at hq6
      clear hlo h66 hal hrs hak hfq hst6 hp6 hc5
      go_wp2
      refine bodyPost_ret (results_cell_pair rfl _ _ (w.heap.size + 1) 54 _ (0, 0) _ rfl (four_blk H66.out) Tryz.underlying54 rfl (by kernel_rfl)) rfl ?_
      rw [HY2.out]
      exact ⟨_, rfl, ⟨_, _, _, rfl, rowR_nil _ _, rowR_nil _ _, rowS_nil _ _⟩, Hlo.out⟩
  · rw [resolve_bad (by rw [hq]; exact hq0), hq]
    have heb : (q == 0) = false := by rw [beq_eq_false_iff_ne]; exact hq0
    have heb2 : (q != 0) = true := by rw [bne, heb]; rfl
    clear hq0 hq
    unfold zeroRes at HCQ
    go_enter Tryz.func28, Tryz.ntmps28
    go_wp2_with fail
    refine HCQ.out.mono ?_
    rintro e w3 ⟨rfl, hB3⟩
    have h66 := H6.out.later hB3
    have hlo : Below w.heap.size w (four w3 (w.heap.size + 1) (.int .i64 0) nilS nilS nilS) := four_lo (HBa.out.trans (hB3.mono HBa.out.size)) (by omega)
    have Hlo := Lib.hid hlo
    have H66 := Lib.hid h66
    have hq6 := fun j => h66.cell j
    have hf6 := fun j => h66.froz j
    have hl6 := h66.lt
    unfold zeroRes at hq6
    clear hlo h66 hB3
    go_wp2
    refine bodyPost_ret (results_cell_pair rfl _ _ (w.heap.size + 1) 54 _ (0, 0) _ rfl (four_blk H66.out) Tryz.underlying54 rfl (by kernel_rfl)) rfl ?_
    exact ⟨_, rfl, ⟨_, _, _, rfl, rowR_nil _ _, rowR_nil _ _, rowS_nil _ _⟩, Hlo.out⟩
end Go.Proofs.YtajllcbjgndcpaaGreatDoor

namespace Go.Proofs.YtajllcbjgndcpaaGreatDoor
open Go.RowKit Go.Maps

theorem strs_cellsZ {w : World} {a : Option Addr} {n cap : Nat} {l : List Lb.Bs} (h : Strs w (.slice a n cap) l) (hn : l ≠ []) : ∃ b o, a = some ⟨b, o, none⟩ ∧ b < w.heap.size ∧ ∀ j x, l[j]? = some x → w.cell? ⟨b, o + j, none⟩ = some (.string ⟨x.toArray⟩) := by
  obtain ⟨a', cap', hv, _, _, hc⟩ := h
  injection hv with e1 e2 e3
  subst e1
  exact hc hn
set_option maxHeartbeats 1600000 in
theorem sameTexts_same (v v' : Value) (l : List Lb.Bs) (w : World) (h : Strs w v l) (h' : Strs w v' l) :
    Calls Tryz.prog 67 #[v, v'] w fun e w' => e = .returned (.bool true) ∧ Below w.heap.size w w' := by
  obtain ⟨a, cap, rfl, hcap, hm, hcell⟩ := id h
  obtain ⟨a', cap', rfl, hcap', hm', hcell'⟩ := id h'
  clear hcell hcell'
  unfold maxLen at hm hm'
  go_enter Tryz.func67, Tryz.ntmps67
  go_wp2
  go_loopw [13] (fun i wr => ∃ k : Nat, k ≤ l.length ∧ i = .int .i64 k ∧ Below w.heap.size w wr) (fun i _ => l.length - (intOf i).toNat)
  case atStart => exact ⟨0, Nat.zero_le _, rfl, Below.refl _ _⟩
  case round =>
    obtain ⟨k, hk, rfl, hB⟩ := hrel
    by_cases hlt : k < l.length
    · have hne : l ≠ [] := by intro e; rw [e] at hlt; simp at hlt
      obtain ⟨b, o, rfl, hb, hc⟩ := strs_cellsZ (h.later hB) hne
      obtain ⟨b', o', rfl, hb', hc'⟩ := strs_cellsZ (h'.later hB) hne
      obtain ⟨x, hx⟩ : ∃ x, l[k]? = some x := ⟨l[k], List.getElem?_eq_getElem hlt⟩
      have hcx := hc k x hx
      have hcx' := hc' k x hx
      clear hx hc hc'
      have hoff : (0 : Int) ≤ k := by omega
      have hlt' : (k : Int) < l.length := by omega
      go_wp2_with fail
      go_region
      all_goals go_wp2
      all_goals exact ⟨⟨k + 1, by omega, by go_num, hB.drew⟩, by simp [intOf]; omega⟩
    · go_wp2
      go_ret
      exact ⟨rfl, hB⟩

def rootL : List Cb.Rec := [⟨[46], 5, 9, [53]⟩, ⟨[98, 46], 3, 9, [115, 46, 98, 46]⟩]
theorem fact_resolve : Vn.resolve [⟨[46], rootL⟩, ⟨[98, 46], factL⟩] [97, 46, 98, 46] 4 = ({ code := 1, aliases := [], recs := [⟨[97, 46, 98, 46], 4, 7, [120]⟩], asked := [[46], [98, 46]] }, 0) := by decide +kernel
theorem zones_block {b : Nat} {w : World} {zs : List ZV} (h : Blk w b (zs.flatMap zvL).toArray 24) (hl : zs.length ≤ 100000) (hr : ∀ x ∈ zs, Recs w.heap.size w (.slice x.a x.z.recs.length x.cap) x.z.recs ∧ ∀ r ∈ x.z.recs, r.data.length ≤ 1048576) : Zones w.heap.size w (.slice (some ⟨b, 0, none⟩) zs.length zs.length) zs := by
  refine ⟨⟨_, zs.length, rfl, Nat.le_refl _, by unfold maxLen; omega, fun _ => ⟨b, 0, rfl, h.lt, .inl h.lt, fun j r hr i u hu => ?_⟩⟩, hr⟩
  rw [h.cell]
  have := flat_at zvL 2 zvL_len zs j r hr i u hu
  rw [Nat.zero_add]
  simpa using this
theorem strs_block {w : World} {b : Nat} {l : List Lb.Bs} (h : Blk w b (strV l).toArray 9) (hl : l.length ≤ 100000) : Strs w (.slice (some ⟨b, 0, none⟩) l.length l.length) l := by
  refine ⟨_, l.length, rfl, Nat.le_refl _, by unfold maxLen; omega, fun _ => ⟨b, 0, rfl, h.lt, fun j x hx => ?_⟩⟩
  rw [h.cell, Nat.zero_add]
  simp [strV, hx]
def zsF (n : Nat) : List ZV := [⟨⟨[46], rootL⟩, some ⟨n, 0, none⟩, 2⟩, ⟨⟨[98, 46], factL⟩, some ⟨n + 1 + 1, 0, none⟩, 2⟩]
def cells1 : Array Value := #[.string ⟨#[46]⟩, .int .i64 5, .int .i64 9, .string ⟨#[53]⟩, .string ⟨#[98, 46]⟩, .int .i64 3, .int .i64 9, .string ⟨#[115, 46, 98, 46]⟩]
def cells2 : Array Value := #[.string ⟨#[98, 46]⟩, .int .i64 5, .int .i64 9, .string ⟨#[53]⟩, .string ⟨#[97, 46, 98, 46]⟩, .int .i64 4, .int .i64 7, .string ⟨#[120]⟩]

set_option maxHeartbeats 6400000 in
set_option maxRecDepth 100000 in
theorem resolveFact_any (w : World) (henv : EnvZ w) : Calls Tryz.prog 29 #[] w (TrueEnd w) := by
  obtain ⟨w1, hw1⟩ : ∃ w1, w1 = w.alloc (.cells cells1 43) := ⟨_, rfl⟩
  obtain ⟨w2, hw2⟩ : ∃ w2, w2 = w1.alloc (.cells #[.string ⟨#[46]⟩, .slice (some ⟨w.heap.size, 0, none⟩) 2 2] 24) := ⟨_, rfl⟩
  obtain ⟨w3, hw3⟩ : ∃ w3, w3 = w2.alloc (.cells cells2 43) := ⟨_, rfl⟩
  obtain ⟨w4, hw4⟩ : ∃ w4, w4 = w3.alloc (.cells #[.string ⟨#[98, 46]⟩, .slice (some ⟨w.heap.size + 1 + 1, 0, none⟩) 2 2] 24) := ⟨_, rfl⟩
  obtain ⟨w5, hw5⟩ : ∃ w5, w5 = w4.alloc (.cells #[.string ⟨#[46]⟩, .slice (some ⟨w.heap.size, 0, none⟩) 2 2, .string ⟨#[98, 46]⟩, .slice (some ⟨w.heap.size + 1 + 1, 0, none⟩) 2 2] 24) := ⟨_, rfl⟩
  have s1 : w1.heap.size = w.heap.size + 1 := by rw [hw1]; simp
  have s2 : w2.heap.size = w.heap.size + 1 + 1 := by rw [hw2]; simp [s1]
  have s3 : w3.heap.size = w.heap.size + 1 + 1 + 1 := by rw [hw3]; simp [s2]
  have s4 : w4.heap.size = w.heap.size + 1 + 1 + 1 + 1 := by rw [hw4]; simp [s3]
  have s5 : w5.heap.size = w.heap.size + 1 + 1 + 1 + 1 + 1 := by rw [hw5]; simp [s4]
  have b1 : Below w.heap.size w w1 := by rw [hw1]; exact (Below.refl _ w).alloc (Nat.le_refl _) _
  have b2 : Below w1.heap.size w1 w2 := by rw [hw2]; exact (Below.refl _ w1).alloc (Nat.le_refl _) _
  have b3 : Below w2.heap.size w2 w3 := by rw [hw3]; exact (Below.refl _ w2).alloc (Nat.le_refl _) _
  have b4 : Below w3.heap.size w3 w4 := by rw [hw4]; exact (Below.refl _ w3).alloc (Nat.le_refl _) _
  have b5 : Below w4.heap.size w4 w5 := by rw [hw5]; exact (Below.refl _ w4).alloc (Nat.le_refl _) _
  have k1 : Blk w5 w.heap.size (rootL.flatMap recV).toArray 43 := ((((by rw [hw1]; exact blk_new w _ _ : Blk w1 w.heap.size (rootL.flatMap recV).toArray 43).later b2).later b3).later b4).later b5
  have k3 : Blk w5 (w.heap.size + 1 + 1) (factL.flatMap recV).toArray 43 := ((by rw [hw3, ← s2]; exact blk_new w2 _ _ : Blk w3 (w.heap.size + 1 + 1) (factL.flatMap recV).toArray 43).later b4).later b5
  have k5 : Blk w5 (w.heap.size + 1 + 1 + 1 + 1) ((zsF w.heap.size).flatMap zvL).toArray 24 := by rw [hw5, ← s4]; exact blk_new w4 _ _
  have hBl : Below w.heap.size w w5 := (((b1.trans (b2.mono (by omega))).trans (b3.mono (by omega))).trans (b4.mono (by omega))).trans (b5.mono (by omega))
  have hZ : Zones w5.heap.size w5 (.slice (some ⟨w.heap.size + 1 + 1 + 1 + 1, 0, none⟩) (zsF w.heap.size).length 2) (zsF w.heap.size) := zones_block k5 (show (2 : Nat) ≤ 100000 by decide) (by
    intro x hx
    rcases List.mem_cons.1 hx with rfl | hx
    · exact ⟨recs_block k1 (show rootL.length ≤ 100000 by decide), show ∀ r ∈ rootL, r.data.length ≤ 1048576 by decide⟩
    · rw [List.mem_singleton] at hx
      subst hx
      exact ⟨recs_block k3 (show factL.length ≤ 100000 by decide), show ∀ r ∈ factL, r.data.length ≤ 1048576 by decide⟩)
  have hR := resolve_any (some ⟨w.heap.size + 1 + 1 + 1 + 1, 0, none⟩) 2 (zsF w.heap.size) [97, 46, 98, 46] 4 w5 (henv.later hBl) hZ
  rw [show (zsF w.heap.size).length = 2 from rfl] at hR
  rw [show (zsF w.heap.size).map ZV.z = [⟨[46], rootL⟩, ⟨[98, 46], factL⟩] from rfl, fact_resolve] at hR
  unfold ResEnd at hR
  have HR := Lib.hid hR
  have HBl := Lib.hid hBl
  rw [hw5, hw4, hw3, hw2, hw1] at HR
  clear b1 b2 b3 b4 b5 k1 k3 k5 hZ hR s1 s2 s3 s4 hBl henv
  subst hw1 hw2 hw3 hw4
  unfold cells1 cells2 at *
  go_enter Tryz.func29, Tryz.ntmps29
  go_wp2_with fail
  generalize ((((w.alloc (.cells #[.string ⟨#[46]⟩, .int .i64 5, .int .i64 9, .string ⟨#[53]⟩, .string ⟨#[98, 46]⟩, .int .i64 3, .int .i64 9, .string ⟨#[115, 46, 98, 46]⟩] 43)).alloc (.cells #[.string ⟨#[46]⟩, .slice (some ⟨w.heap.size, 0, none⟩) 2 2] 24)).alloc (.cells #[.string ⟨#[98, 46]⟩, .int .i64 5, .int .i64 9, .string ⟨#[53]⟩, .string ⟨#[97, 46, 98, 46]⟩, .int .i64 4, .int .i64 7, .string ⟨#[120]⟩] 43)).alloc (.cells #[.string ⟨#[98, 46]⟩, .slice (some ⟨w.heap.size + 1 + 1, 0, none⟩) 2 2] 24)).alloc (.cells #[.string ⟨#[46]⟩, .slice (some ⟨w.heap.size, 0, none⟩) 2 2, .string ⟨#[98, 46]⟩, .slice (some ⟨w.heap.size + 1 + 1, 0, none⟩) 2 2] 24) = wz at *
  subst hw5
  refine HR.out.mono ?_
  rintro e w6 ⟨v, rfl, hres, hB6⟩
  have HB6 := Lib.hid (HBl.out.trans (hB6.mono HBl.out.size))
  obtain ⟨v1, v2, v3, rfl, hr1, hr2, hr3⟩ := hres.val
  obtain ⟨a1, k1, rfl⟩ := hr1.val
  obtain ⟨a2, k2, rfl⟩ := hr2.val
  obtain ⟨a3, k3, rfl⟩ := ownsRow_val hr3
  obtain ⟨b, p, rfl, hb, c0, c1, c2, c3⟩ := recs_at (RowR.recs (B' := 0) hr2) (k := 0) rfl
  have d3 : w6.cell? ⟨b, p + 3, none⟩ = some (.string ⟨#[120]⟩) := by simpa using c3
  have hS := hr3.strs
  dsimp only [List.length_nil, List.length_cons] at hS ⊢
  have hBn := ((Below.refl w6.heap.size w6).alloc (Nat.le_refl _) (.cells #[.int .i64 1, .slice a1 0 k1, .slice (some ⟨b, p, none⟩) 1 k2, .slice a3 2 k3] 54)).alloc (by simp) (.cells #[.string ⟨#[46]⟩, .string ⟨#[98, 46]⟩] 9)
  have hblk := blk_second w6 (.cells #[.int .i64 1, .slice a1 0 k1, .slice (some ⟨b, p, none⟩) 1 k2, .slice a3 2 k3] 54) #[.string ⟨#[46]⟩, .string ⟨#[98, 46]⟩] 9
  have HX := Lib.hid (sameTexts_same (.slice a3 2 k3) (.slice (some ⟨w6.heap.size + 1, 0, none⟩) 2 2) [[46], [98, 46]] _ (hS.later hBn) (strs_block (l := [[46], [98, 46]]) hblk (show (2 : Nat) ≤ 100000 by decide)))
  have HBn := Lib.hid (HB6.out.trans (hBn.mono HB6.out.size))
  have hsz6 : w.heap.size ≤ w6.heap.size := HB6.out.size
  clear hres hr1 hr2 hr3 hB6 HR c0 c1 c2 c3 hS hBn hblk s5
  go_wp2_with fail
  refine HX.out.mono ?_
  rintro e w8 ⟨rfl, hB8⟩
  have HB8 := Lib.hid (HBn.out.trans (hB8.mono HBn.out.size))
  clear hB8
  go_wp2
  go_ret
  exact ⟨by simp, HB8.out⟩
end Go.Proofs.YtajllcbjgndcpaaGreatDoor

namespace Go.Proofs.YtajllcbjgndcpaaGreatDoor
open Go.RowKit Go.Maps

theorem resolve_err {zs : List Zn.Zone} {nm : Lb.Bs} {kd : Int} (h : (Vn.resolve zs nm kd).2 ≠ 0) : (Vn.resolve zs nm kd).1 = {} := by
  unfold Vn.resolve Vn.fault at h ⊢
  split
  · rfl
  · rename_i h1
    rw [if_neg h1] at h
    split
    · rfl
    · rename_i h2
      rw [if_neg h2] at h
      split
      · rfl
      · rename_i h3
        rw [if_neg h3] at h
        exact absurd rfl h
theorem steps_at : ∀ (l : List Lb.Bs) (p : Lb.Bs) (k : Nat) (o : Lb.Bs), Vn.Steps p l → l[k + 1]? = some o → o = [46] ∨ ∃ pr, l[k]? = some pr ∧ Zn.under o pr = true ∧ o ≠ pr
  | [], _, _, _, _, h => by simp at h
  | x :: l, p, 0, o, hs, h => by
    have h2 : l[0]? = some o := by simpa using h
    cases l with
    | nil => simp at h2
    | cons y l =>
      simp at h2
      subst h2
      rcases hs.2.1 with e | ⟨e1, e2⟩
      · exact .inl e
      · exact .inr ⟨x, rfl, e1, e2⟩
  | x :: l, p, k + 1, o, hs, h => by
    have h2 : l[k + 1]? = some o := by simpa using h
    have := steps_at l x k o hs.2 h2
    simpa using this
theorem roots_next {l : List Lb.Bs} {k : Nat} {o : Lb.Bs} (h : l[k]? = some o) : Vn.roots (l.take (k + 1)) = Vn.roots (l.take k) + if o = [46] then 1 else 0 := by
  unfold Vn.roots
  rw [List.take_add_one, h, List.filter_append, List.length_append]
  by_cases e : o = [46]
  · simp [e]
  · simp [e]
theorem roots_len (l : List Lb.Bs) (k : Nat) : Vn.roots (l.take k) ≤ k := by
  unfold Vn.roots
  exact filter_le _ _ _

def TreeInv (l : List Lb.Bs) (w0 : World) (k : Nat) (n : Nat) (wr : World) : Prop := Vn.roots (l.take k) = n ∧ Below w0.heap.size w0 wr
set_option maxHeartbeats 12800000 in
set_option maxRecDepth 100000 in
theorem resolveTree_any (v : Value) (zs : List ZV) (s : ByteArray) (kd : Int) (w : World) (henv : EnvZ w) (hZ : Zones w.heap.size w v zs) : Calls Tryz.prog 9 #[v, .string s, .int .i64 kd] w (TrueEnd w) := by
  obtain ⟨za, zc, rfl, -, -⟩ := hZ.val
  obtain ⟨nm, rfl⟩ : ∃ nm : Lb.Bs, s = ⟨nm.toArray⟩ := ⟨s.data.toList, by simp⟩
  have hR := resolve_any za zc zs nm kd w henv hZ
  have HF := Lib.hid (fun W (hW : Below w.heap.size w W) => resolveFact_any W (henv.later hW))
  have HU := Lib.hid (fun (a b : Lb.Bs) W (hW : Below w.heap.size w W) => (show Calls Tryz.prog 30 #[.string ⟨a.toArray⟩, .string ⟨b.toArray⟩] W (UndEnd a b W) from under_all ⟨a.toArray⟩ ⟨b.toArray⟩ W (henv.later hW).env))
  have herr := @resolve_err (zs.map ZV.z) nm kd
  have htree := Vn.resolve_tree (zs.map ZV.z) nm kd
  obtain ⟨Y, hY⟩ : ∃ Y, Vn.resolve (zs.map ZV.z) nm kd = Y := ⟨_, rfl⟩
  rw [hY] at hR herr htree
  unfold ResEnd at hR
  unfold UndEnd at HU
  unfold TrueEnd at HF
  have HR := Lib.hid hR
  obtain ⟨⟨xc, xa, xr, xs⟩, er⟩ := Y
  dsimp only at HR herr htree
  clear hR hY henv hZ
  by_cases he : er = 0
  · subst he
    obtain ⟨hst, hro, hhd⟩ := htree rfl
    have Hst := Lib.hid (hst [])
    have Hro := Lib.hid hro
    have Hhd := Lib.hid hhd
    clear herr htree hst hro hhd
    go_enter Tryz.func9, Tryz.ntmps9
    go_wp2_with fail
    refine HR.out.mono ?_
    rintro e w2 ⟨v, rfl, hres, hB2⟩
    obtain ⟨v1, v2, v3, rfl, hr1, hr2, hr3⟩ := hres.val
    dsimp only at hr1 hr2 hr3 ⊢
    obtain ⟨a1, k1, rfl⟩ := hr1.val
    obtain ⟨a2, k2, rfl⟩ := hr2.val
    obtain ⟨a3, k3, rfl⟩ := ownsRow_val hr3
    have hS := hr3.strs
    have hls : (xs.length : Int) ≤ 9223372036854775807 := by obtain ⟨a', c', e, h1, h2, -⟩ := hS; unfold maxLen at h2; omega
    have hBn := (Below.refl w2.heap.size w2).alloc (Nat.le_refl _) (.cells #[.int .i64 xc, .slice a1 xa.length k1, .slice a2 xr.length k2, .slice a3 xs.length k3] 54)
    have HB3 := Lib.hid (hB2.trans (hBn.mono hB2.size))
    have HS := Lib.hid (hS.later hBn)
    have HQ := Lib.hid (blk_new w2 #[.int .i64 xc, .slice a1 xa.length k1, .slice a2 xr.length k2, .slice a3 xs.length k3] 54)
    clear hres hr1 hr2 hr3 hB2 hS hBn
    have hq3 := fun j => HQ.out.cell j
    go_wp2
    generalize w2.alloc (.cells #[.int .i64 xc, .slice a1 xa.length k1, .slice a2 xr.length k2, .slice a3 xs.length k3] 54) = w3 at *
    go_loopw [9, 32] (fun rv kv wr => ∃ (k n : Nat), k ≤ xs.length ∧ kv = .int .i64 k ∧ rv = .int .i64 n ∧ Hid (TreeInv xs w3 k n wr)) (fun _ kv _ => xs.length - (intOf kv).toNat)
    case atStart => exact ⟨0, 0, Nat.zero_le _, rfl, rfl, ⟨rfl, Below.refl _ _⟩⟩
    case round =>
      obtain ⟨k, n, hk, rfl, rfl, HI⟩ := hrel
      have HBt := Lib.hid (HB3.out.trans (HI.out.2.mono HB3.out.size))
      have hqc := fun j => (HQ.out.later HI.out.2).cell j
      by_cases hlt : k < xs.length
      · obtain ⟨o, ho⟩ : ∃ o, xs[k]? = some o := ⟨xs[k], List.getElem?_eq_getElem hlt⟩
        have hne : xs ≠ [] := by rintro rfl; simp at hlt
        obtain ⟨b, p, rfl, hb, hc⟩ := strs_cellsZ (HS.out.later HI.out.2) hne
        have c0 := hc k o ho
        have hnext := roots_next ho
        rw [HI.out.1] at hnext
        have hnk : n ≤ k := by rw [← HI.out.1]; exact roots_len xs k
        have hi0 : (0 : Int) ≤ (k : Int) := by omega
        have hi1 : (k : Int) < (xs.length : Int) := by omega
        by_cases hdot : o = [46]
        · rw [if_pos hdot] at hnext
          have Hn := Lib.hid hnext
          have hob : (o == [46]) = true := by rw [beq_iff_eq]; exact hdot
          clear hnext hdot hc ho
          go_wp2
          exact ⟨⟨k + 1, n + 1, by omega, by go_num, by go_num, ⟨Hn.out, HI.out.2⟩⟩, by simp [intOf]; omega⟩
        · rw [if_neg hdot] at hnext
          have Hn := Lib.hid hnext
          have hob : (o == [46]) = false := by rw [beq_eq_false_iff_ne]; exact hdot
          obtain ⟨k, rfl⟩ : ∃ k', k = k' + 1 := by
            cases k with
            | zero =>
              have := Hhd.out
              rw [List.head?_eq_getElem?, ho] at this
              injection this with this
              exact absurd this hdot
            | succ k => exact ⟨k, rfl⟩
          rcases steps_at xs [] k o Hst.out ho with e | ⟨pr, hpr, hu, hnp⟩
          · exact absurd e hdot
          have c1 := hc k pr hpr
          have hpb : (o == pr) = false := by rw [beq_eq_false_iff_ne]; exact hnp
          have hU := HU.out o pr wr HBt.out
          rw [hu] at hU
          have HU2 := Lib.hid hU
          have hk1 : (k : Int) < (xs.length : Int) := by omega
          have hk0 : (0 : Int) ≤ (k : Int) := by omega
          have hkk : ((k + 1 : Nat) : Int) - 1 = (k : Int) := by omega
          clear hnext hdot hc ho hU hu hnp hpr
          go_wp2_with fail
          refine HU2.out.mono ?_
          rintro e w4 ⟨q, rfl, -, hB4⟩
          have HB4 := Lib.hid (HI.out.2.trans (hB4.mono HI.out.2.size))
          have hq4 := fun j => ((HQ.out.later HI.out.2).later hB4).cell j
          have c04 := (hB4.cell (p := ⟨b, p + (k + 1), none⟩) hb).trans c0
          have c14 := (hB4.cell (p := ⟨b, p + k, none⟩) hb).trans c1
          clear hB4 hqc c0 c1 hq3
          go_wp2
          exact ⟨⟨k + 1 + 1, n, by omega, by go_num, rfl, ⟨Hn.out, HB4.out⟩⟩, by simp [intOf]; omega⟩
      · obtain rfl : k = xs.length := by omega
        have h1 := HI.out.1
        rw [List.take_length, Hro.out] at h1
        have h0 : (0 : Int) < (xs.length : Int) := by
          have := Hhd.out
          cases xs with
          | nil => cases this
          | cons y r => rw [List.length_cons]; omega
        have hne : xs ≠ [] := by rintro rfl; simp at h0
        obtain ⟨b, p, rfl, hb, hc⟩ := strs_cellsZ (HS.out.later HI.out.2) hne
        have c0 := hc 0 [46] (by have := Hhd.out; rwa [List.head?_eq_getElem?] at this)
        rw [Nat.add_zero] at c0
        have hxn : ∃ m : Int, m = (xa.length : Int) ∧ (n : Int) = m + 1 := ⟨_, rfl, by omega⟩
        have hlb : (xa.length : Int) + 1 ≤ 9223372036854775807 := by
          have h2 := roots_len xs xs.length
          rw [List.take_length, Hro.out] at h2
          omega
        have Hls := Lib.hid hls
        have hx0 : (0 : Int) ≤ (xa.length : Int) := by omega
        have hnn : (n : Int) = (xa.length : Int) + 1 := by omega
        have HI2 := Lib.hid HI.out.2
        have HIo := Lib.hid hnn
        rw [hnn]
        have hwr : wrap64 ((xa.length : Int) + 1) = (xa.length : Int) + 1 := by first | exact IntWalk.i64_in _ ⟨by omega, by omega⟩ | (unfold wrap64; omega) | go_num
        clear hxn hls HI hk hlt hnn h1 hlb hx0
        have HF2 := Lib.hid (HF.out wr HBt.out)
        clear hc
        go_wp2_with fail
        refine HF2.out.mono ?_
        rintro e w4 ⟨rfl, hB4⟩
        have HB4 := Lib.hid (HBt.out.trans (hB4.mono HBt.out.size))
        have hq4 := fun j => ((HQ.out.later HI2.out).later hB4).cell j
        have c04 := (hB4.cell (p := ⟨b, p, none⟩) hb).trans c0
        clear hB4 hqc c0 hq3
        go_wp2
        go_ret
        exact true_ret (by simp) HB4.out
  · have he0 : xc = 0 := by have := herr he; injection this
    subst he0
    have heb : (er == 0) = false := by rw [beq_eq_false_iff_ne]; exact he
    have heb2 : (er != 0) = true := by rw [bne, heb]; rfl
    clear herr htree he
    go_enter Tryz.func9, Tryz.ntmps9
    go_wp2_with fail
    refine HR.out.mono ?_
    rintro e w2 ⟨v, rfl, hres, hB2⟩
    obtain ⟨v1, v2, v3, rfl, hr1, hr2, hr3⟩ := hres.val
    dsimp only at hr1 hr2 hr3 ⊢
    obtain ⟨a1, k1, rfl⟩ := hr1.val
    obtain ⟨a2, k2, rfl⟩ := hr2.val
    obtain ⟨a3, k3, rfl⟩ := ownsRow_val hr3
    have hBn := (Below.refl w2.heap.size w2).alloc (Nat.le_refl _) (.cells #[.int .i64 0, .slice a1 xa.length k1, .slice a2 xr.length k2, .slice a3 xs.length k3] 54)
    have HB3 := Lib.hid (hB2.trans (hBn.mono hB2.size))
    have HQ := Lib.hid (blk_new w2 #[.int .i64 0, .slice a1 xa.length k1, .slice a2 xr.length k2, .slice a3 xs.length k3] 54)
    clear hres hr1 hr2 hr3 hB2 hBn
    go_wp2_with fail
    refine (HF.out _ HB3.out).mono ?_
    rintro e w4 ⟨rfl, hB4⟩
    have HB4 := Lib.hid (HB3.out.trans (hB4.mono HB3.out.size))
    have hq4 := fun j => (HQ.out.later hB4).cell j
    clear hB4
    go_wp2
    go_ret
    exact true_ret (by simp) HB4.out
end Go.Proofs.YtajllcbjgndcpaaGreatDoor

namespace Go.Proofs.YtajllcbjgndcpaaGreatDoor
open Go.ChangeShapes Go.WideShapes Go.ChangeAt Go.RowKit Go.Deep Go.Maps

section
variable {H : Type} {enc : TypeId × Value → H} {W : World}
set_option maxRecDepth 100000 in
/-- A list of zones that came in. -/
theorem zones_came {v : Value} {d : DataW H} {p : List MemPlace} (hok : ∃ a len cap, v = .slice a len cap) (h : DataW.Trod enc Tryz.prog W 0 (fun _ => true) true 51 v d p) (hd : Rows.uptoBulk d ≤ 1048576) : ∃ zs : List ZV, Zones W.heap.size W v zs := by
  obtain ⟨a0, len0, cap0, rfl⟩ := hok
  obtain ⟨fuel, hf⟩ := h
  rcases open_slice Tryz.underlying51 hf with ⟨hcs, _⟩ | ⟨a, len, cap, m, k, D, Pl, hcs, _, hl, hm, hmm, hxe, hx⟩
  · simp [Value.cells] at hcs
    obtain ⟨rfl, rfl, rfl⟩ := hcs
    exact ⟨[], ⟨none, 0, rfl, Nat.le_refl _, by unfold maxLen; omega, fun h => absurd rfl h⟩, fun x hx => by simp at hx⟩
  · simp [Value.cells] at hcs
    obtain ⟨rfl, rfl, rfl⟩ := hcs
    simp only [if_true] at hmm
    have hce : Tryz.prog.cellsOf 24 = 2 := by kernel_rfl
    rw [hce] at hx
    obtain ⟨R, hR⟩ := choose_lt (α := ZV) (n := len0) (p := fun i r => (∀ j u, (zvL r)[j]? = some u → W.cell? (a.add (i * 2 + j)) = some u) ∧ Recs W.heap.size W (.slice r.a r.z.recs.length r.cap) r.z.recs ∧ ∀ q ∈ r.z.recs, q.data.length ≤ 1048576) (fun i hi => by
      obtain ⟨cs', hc, ht⟩ := hx i (by omega)
      obtain ⟨_, hcl, hat⟩ := World.cells?_some hc
      obtain ⟨o, za, l, zc, rfl, hr, hb⟩ := zoneB hcl ht
      refine ⟨⟨⟨o, l⟩, za, zc⟩, fun j u hu => ?_, hr, fun q hq => ?_⟩
      · have hj : j < 2 := by have := (List.getElem?_eq_some_iff.1 hu).1; rwa [zvL_len] at this
        have := hat j hj
        rw [add_add] at this
        rw [this]
        exact hu
      · refine Nat.le_trans (hb q hq) (Nat.le_trans ?_ hd)
        rw [(Prod.mk.inj hxe).1]
        exact bulk_elem (List.mem_map.2 ⟨i, List.mem_range.2 hi, rfl⟩))
    refine ⟨(List.range len0).map R, ⟨some a, cap0, by simp, by simp; omega, hm, fun hn => ?_⟩, fun x hx => ?_⟩
    · have hpos : 0 < len0 := by
        rcases Nat.eq_zero_or_pos len0 with h0 | h0
        · subst h0; simp at hn
        · exact h0
      obtain ⟨b, off, spot⟩ := a
      have hc := (hR 0 hpos).1 0 _ rfl
      have hspot : spot = none := by simpa [Addr.add] using World.cell?_spot hc
      subst hspot
      have hb : b < W.heap.size := by have := World.block_lt_of_cell? W _ hc; simpa [Addr.add] using this
      refine ⟨b, off, rfl, hb, .inl hb, fun j y hy i u hu => ?_⟩
      rw [List.getElem?_map, Option.map_eq_some_iff] at hy
      obtain ⟨i', hi', rfl⟩ := hy
      obtain ⟨hj, hi2⟩ := List.getElem?_eq_some_iff.1 hi'
      rw [List.length_range] at hj
      rw [List.getElem_range] at hi2
      subst hi2
      have := (hR j hj).1 i u hu
      rw [add_at] at this
      rw [← this, Nat.add_assoc]
    · obtain ⟨i, hi, rfl⟩ := List.mem_map.1 hx
      exact (hR i (List.mem_range.1 hi)).2
end
end Go.Proofs.YtajllcbjgndcpaaGreatDoor
