/- WALKS: Get at every input; cacheFact; cacheOf. -/
import Derived.Test.YtajllcbjgndcpaaDoorK15
import Derived.Test.YtajllcbjgndcpaaDoorS1
import Derived.LaidEqlPtr
namespace Go.Proofs.YtajllcbjgndcpaaDoor
open Go.RowKit Go.Maps

theorem get_any {B pb : Nat} {c : Cb.Cac} {xs : List EV} {v : Value} (w : World) (henv : Env w) (hI : Cb.Inv c) (h : Cch B pb w c xs v) (s : ByteArray) (kind now : Int) :
    Calls Tryd.prog 15 #[.pointer (some ⟨pb, 0, none⟩), .string s, .int .i64 kind, .int .i64 now] w (GetEnd B pb c s.data.toList kind now w) := by
  by_cases hk : Cb.chk c s.data.toList kind now = 0
  · exact get_ok w henv hI h s kind now hk
  · exact get_chk w henv h s kind now hk

def factR : Cb.Rp := ⟨1, [⟨[97, 46], 4, 5, [120]⟩], 0, 0, 0⟩
theorem fact_put : Cb.putErr ⟨2, 0, []⟩ [97, 46] 4 factR 10 = 0 := by decide +kernel
theorem fact_chk : Cb.chk (Cb.put ⟨2, 0, []⟩ [97, 46] 4 factR 10) [97, 46] 4 13 = 0 := by decide +kernel
theorem fact_got : Cb.got (Cb.put ⟨2, 0, []⟩ [97, 46] 4 factR 10) [97, 46] 4 13 = some ⟨1, [⟨[97, 46], 4, 2, [120]⟩], 0, 0, 0⟩ := by kernel_rfl
theorem env_below {w w' : World} (h : Env w) (hb : Below w.heap.size w w') : Env w' := h.later hb

set_option maxHeartbeats 3200000 in
set_option maxRecDepth 100000 in
theorem cacheFact_any (w : World) (henv : Env w) : Calls Tryd.prog 13 #[] w fun e w' => e = .returned (.bool true) ∧ Below w.heap.size w w' := by
  have HN := Lib.hid (new_any 2 w (by decide) (by decide))
  go_enter Tryd.func13, Tryd.ntmps13
  go_wp2_with fail
  refine HN.out.mono ?_
  rintro e w1 ⟨rfl, hC1, hB1⟩
  have HC1 := Lib.hid hC1
  have HB1 := Lib.hid hB1
  have hz1 := hB1.size
  clear hC1 hB1 HN
  go_wp2_with fail
  have hBn : Below w1.heap.size w1 ((w1.alloc (.cells #[.string ⟨#[97, 46]⟩, .int .i64 4, .int .i64 5, .string ⟨#[120]⟩] 39)).alloc (.cells #[.int .i64 1, .slice (some ⟨w1.heap.size, 0, none⟩) 1 1, .slice none 0 0, .slice none 0 0, .int .i64 0] 31)) := ((Below.refl _ w1).alloc (Nat.le_refl _) _).alloc (by simp) _
  have hrc : ((w1.alloc (.cells #[.string ⟨#[97, 46]⟩, .int .i64 4, .int .i64 5, .string ⟨#[120]⟩] 39)).alloc (.cells #[.int .i64 1, .slice (some ⟨w1.heap.size, 0, none⟩) 1 1, .slice none 0 0, .slice none 0 0, .int .i64 0] 31)).heap[w1.heap.size]? = some (.cells #[.string ⟨#[97, 46]⟩, .int .i64 4, .int .i64 5, .string ⟨#[120]⟩] 39 (0, 0)) := by
    rw [Below.heap_alloc _ _ _ (by simp), heap_alloc_new]
  generalize ((w1.alloc (.cells #[.string ⟨#[97, 46]⟩, .int .i64 4, .int .i64 5, .string ⟨#[120]⟩] 39)).alloc (.cells #[.int .i64 1, .slice (some ⟨w1.heap.size, 0, none⟩) 1 1, .slice none 0 0, .slice none 0 0, .int .i64 0] 31)) = w2 at *
  have hR : Recs w.heap.size w2 (.slice (some ⟨w1.heap.size, 0, none⟩) 1 1) factR.recs := by
    refine ⟨_, _, rfl, Nat.le_refl _, by decide, fun _ => ⟨w1.heap.size, 0, rfl, (Array.getElem?_eq_some_iff.1 hrc).1, .inr ⟨_, _, hrc⟩, ?_⟩⟩
    intro j r hr i u hu
    obtain ⟨rfl, rfl⟩ : j = 0 ∧ r = ⟨[97, 46], 4, 5, [120]⟩ := by
      cases j with
      | zero => simp [factR] at hr; exact ⟨rfl, hr.symm⟩
      | succ j => simp [factR] at hr
    rw [show 0 + 0 * 4 + i = i by omega, cell_of_row w2 _ i _ _ _ hrc, ← hu]
    show (recV ⟨[97, 46], 4, 5, [120]⟩).toArray[i]? = _
    rw [List.getElem?_toArray]
  have hX : ROk w.heap.size w2 ⟨factR, some ⟨w1.heap.size, 0, none⟩, 1, none, 0, none, 0⟩ := ⟨hR, ⟨Nat.le_refl _, Nat.zero_le _⟩, ⟨Nat.le_refl _, Nat.zero_le _⟩⟩
  have hB2 := HB1.out.trans (hBn.mono hz1)
  have hP : Calls Tryd.prog 14 #[.pointer (some ⟨w.heap.size, 0, none⟩), .string ⟨#[97, 46]⟩, .int .i64 4, .agg #[.int .i64 1, .slice (some ⟨w1.heap.size, 0, none⟩) 1 1, .slice none 0 0, .slice none 0 0, .int .i64 0], .int .i64 10] w2 (StoreEnd w.heap.size w.heap.size ⟨2, 0, []⟩ [97, 46] 4 factR 10 w2) :=
    cachePut_any w2 (henv.later hB2) (Cb.inv_new 2 (by decide) (by decide)) (HC1.out.later hBn) ⟨#[97, 46]⟩ 4 10 _ hX
  unfold StoreEnd at hP
  rw [fact_put] at hP
  have HP := Lib.hid hP
  have HB2 := Lib.hid hB2
  clear hBn hrc hR hX hP hB2
  refine HP.out.mono ?_
  rintro e w3 ⟨rfl, ⟨xs3, v3, hC3⟩, hF3⟩
  have hB3 : Below w.heap.size w w3 := HB2.out.trans hF3.below
  have hG : Calls Tryd.prog 15 #[.pointer (some ⟨w.heap.size, 0, none⟩), .string ⟨#[97, 46]⟩, .int .i64 4, .int .i64 13] w3 (GetEnd w.heap.size w.heap.size (Cb.put ⟨2, 0, []⟩ [97, 46] 4 factR 10) [97, 46] 4 13 w3) :=
    get_any w3 (henv.later hB3) (Cb.inv_put (Cb.inv_new 2 (by decide) (by decide)) _ _ _ _) hC3 ⟨#[97, 46]⟩ 4 13
  unfold GetEnd at hG
  rw [fact_chk, fact_got] at hG
  have HG := Lib.hid hG
  have HB3 := Lib.hid hB3
  clear hC3 hF3 hB3 hG HP
  go_wp2_with fail
  refine HG.out.mono ?_
  rintro e w4 ⟨⟨p, ra, rc, sa, sc, ga, gc⟩, rfl, hp, hr, -, -, -, hF4⟩
  simp only [Option.getD_some] at hp
  subst hp
  dsimp only at hr
  obtain ⟨b, o, rfl, hb, c0, c1, c2, c3⟩ := recs_at hr (k := 0) rfl
  have k2 : w4.cell? ⟨b, o + 2, none⟩ = some (.int .i64 2) := by simpa using c2
  have hne : b ≠ w4.heap.size := by omega
  have HE := Lib.hid ((HB3.out.trans hF4.below))
  have hz4 : w.heap.size ≤ w4.heap.size := HE.out.size
  clear hr hF4 c0 c1 c2 c3 HG
  unfold rpV
  dsimp only
  go_wp2
  go_ret
  exact ⟨rfl, HE.out.alloc hz4 _⟩

/-- A step as it lies in memory. -/
structure St where
  put : Bool
  name : Lb.Bs
  kind : Int
  r : RP
  wait : Int
def stepV (x : St) : List Value := [.bool x.put, .string ⟨x.name.toArray⟩, .int .i64 x.kind, .int .i64 x.r.p.code, .slice x.r.ra x.r.p.recs.length x.r.rc, .slice x.r.sa x.r.p.ns x.r.sc, .slice x.r.ga x.r.p.ng x.r.gc, .int .i64 x.r.p.neg, .int .i64 x.wait]
/-- A list of steps below block B. -/
def Steps (B : Nat) (w : World) (v : Value) (l : List St) : Prop := ∃ (a : Option Addr) (cap : Nat), v = .slice a l.length cap ∧ l.length ≤ cap ∧ cap ≤ maxLen ∧
  (l ≠ [] → ∃ b o, a = some ⟨b, o, none⟩ ∧ b < B ∧ ∀ j x, l[j]? = some x → ∀ i u, (stepV x)[i]? = some u → w.cell? ⟨b, o + j * 9 + i, none⟩ = some u) ∧ ∀ x ∈ l, ROk B w x.r
/-- What its loop carries. -/
def OfInv (B : Nat) (q : Int) (w0 w : World) (t : Int) : Prop := ∃ (c : Cb.Cac) (xs : List EV) (v : Value), Cch B B w c xs v ∧ Cb.Inv c ∧ c.room = 1 + q ∧ c.now ≤ t ∧ Below B w0 w
theorem put_room (c : Cb.Cac) (name : Lb.Bs) (kind : Int) (r : Cb.Rp) (now : Int) : (Cb.put c name kind r now).room = c.room := by unfold Cb.put; split <;> rfl
theorem put_now {c : Cb.Cac} (name : Lb.Bs) (kind : Int) (r : Cb.Rp) {now : Int} (h : c.now ≤ now) : (Cb.put c name kind r now).now ≤ now := by
  unfold Cb.put; split
  · exact h
  · exact Int.le_refl _
theorem get_room (c : Cb.Cac) (name : Lb.Bs) (kind now : Int) : (Cb.get c name kind now).room = c.room := by
  unfold Cb.get; split
  · rfl
  · split <;> rfl
theorem get_now {c : Cb.Cac} (name : Lb.Bs) (kind : Int) {now : Int} (h : c.now ≤ now) : (Cb.get c name kind now).now ≤ now := by
  unfold Cb.get; split
  · exact h
  · split <;> exact Int.le_refl _
/-- What cacheOf leaves. -/
def OfEnd (B : Nat) (room : Int) (w0 : World) (e : Ending) (w' : World) : Prop :=
  ∃ (pb : Nat) (c : Cb.Cac) (xs : List EV) (v : Value) (now : Int), e = .returned (.tuple #[.pointer (some ⟨pb, 0, none⟩), .int .i64 now]) ∧ Cch B pb w' c xs v ∧ Cb.Inv c ∧ c.room = 1 + (max 0 room).tmod 8 ∧ c.now ≤ now ∧ 0 ≤ now ∧ now ≤ 2000 ∧ Below B w0 w'

set_option maxHeartbeats 6400000 in
set_option maxRecDepth 100000 in
theorem cacheOf_any (room : Int) (v : Value) (l : List St) (w : World) (henv : Env w) (h : Steps w.heap.size w v l) (hr : -9223372036854775808 ≤ room ∧ room ≤ 9223372036854775807) :
    Calls Tryd.prog 12 #[.int .i64 room, v] w (OfEnd w.heap.size room w) := by
  obtain ⟨a, cap, rfl, hc, hm, hcell, hrok⟩ := h
  unfold maxLen at hm
  have hq : 0 ≤ (max 0 room).tmod 8 ∧ (max 0 room).tmod 8 ≤ 7 := by
    rw [Int.tmod_eq_emod_of_nonneg (by omega)]; omega
  obtain ⟨q, hqd⟩ : ∃ q, q = (max 0 room).tmod 8 := ⟨_, rfl⟩
  rw [← hqd] at hq
  have Hq := Lib.hid hqd
  have HN := Lib.hid (new_any (1 + q) w (by omega) (by omega))
  have Hcell := Lib.hid hcell
  have Hrok := Lib.hid hrok
  have hs : (max 0 room).tmod 8 = q := hqd.symm
  clear hcell hrok hqd
  go_enter Tryd.func12, Tryd.ntmps12
  go_wp2_with fail
  refine HN.out.mono ?_
  rintro e w1 ⟨rfl, hC1, hB1⟩
  have HC1 := Lib.hid hC1
  have HB1 := Lib.hid hB1
  obtain ⟨m, hmd⟩ : ∃ m, m = min l.length 20 := ⟨_, rfl⟩
  have hmi : min (l.length : Int) 20 = (m : Int) := by omega
  have hm0 : m ≤ cap := by omega
  have hm1 : (m : Int) ≤ (cap : Int) := by omega
  have hm2 : (0 : Int) ≤ (m : Int) := by omega
  have hml : m ≤ l.length := by omega
  have hm20 : m ≤ 20 := by omega
  clear hmd hC1 hB1 HN
  go_wp2
  go_loopw [8, 31] (fun nw i wr => ∃ (k : Nat) (t : Int), k ≤ m ∧ i = .int .i64 k ∧ nw = .int .i64 t ∧ 0 ≤ t ∧ t ≤ 100 * (k : Int) ∧ Hid (OfInv w.heap.size q w wr t)) (fun _ i _ => m - (intOf i).toNat)
  case atStart => exact ⟨0, 0, Nat.zero_le _, rfl, rfl, by omega, by omega, ⟨⟨1 + q, 0, []⟩, [], .slice none 0 0, HC1.out, Cb.inv_new _ (by omega) (by omega), rfl, Int.le_refl _, HB1.out⟩⟩
  case round =>
    obtain ⟨k, t, hk, rfl, rfl, ht0, ht1, HO⟩ := hrel
    obtain ⟨c, xs, v, hC, hI, hroom, hnow, hB⟩ := HO.out
    by_cases hlt : k < m
    · obtain ⟨x, hx⟩ : ∃ x, l[k]? = some x := ⟨l[k]'(by omega), List.getElem?_eq_getElem _⟩
      obtain ⟨b, o, rfl, hb, hcell⟩ := Hcell.out (by rintro rfl; simp at hx)
      have hxr := Hrok.out x (List.mem_of_getElem? hx)
      have hwc : ∀ i u, (stepV x)[i]? = some u → wr.cell? ⟨b, o + k * 9 + i, none⟩ = some u := fun i u hu => (hB.cell (p := ⟨b, o + k * 9 + i, none⟩) hb).trans (hcell k x hx i u hu)
      have hblt : b < wr.heap.size := Nat.lt_of_lt_of_le hb hB.size
      obtain ⟨pt, nm, kd, ⟨⟨code, recs, ns, ng, neg⟩, ra, rc, sa, sc, ga, gc⟩, wt⟩ := x
      have c0 : wr.cell? ⟨b, o + k * 9, none⟩ = _ := hwc 0 _ rfl
      have c1 := hwc 1 _ rfl
      have c2 := hwc 2 _ rfl
      have c3 := hwc 3 _ rfl
      have c4 := hwc 4 _ rfl
      have c5 := hwc 5 _ rfl
      have c6 := hwc 6 _ rfl
      have c7 := hwc 7 _ rfl
      have c8 := hwc 8 _ rfl
      obtain ⟨d, hd⟩ : ∃ d, max 0 (min wt 100) = d := ⟨_, rfl⟩
      have hd0 : 0 ≤ d ∧ d ≤ 100 := by omega
      have hk0 : (0 : Int) ≤ (k : Int) := by omega
      have hk1 : (k : Int) < (m : Int) := by omega
      have hk2 : (k : Int) < 20 := by omega
      have hrok2 : Recs w.heap.size wr (.slice ra recs.length rc) recs := by
        obtain ⟨a', cap', h1, h2, h3, h4⟩ := hxr.r
        refine ⟨a', cap', h1, h2, h3, fun hn => ?_⟩
        obtain ⟨b', o', h5, h6, h7, h8⟩ := h4 hn
        have hb' : b' < w.heap.size := h6
        exact ⟨b', o', h5, Nat.lt_of_lt_of_le hb' hB.size, .inl hb', fun j r hr i u hu => (hB.cell (p := ⟨b', o' + j * 4 + i, none⟩) hb').trans (h8 j r hr i u hu)⟩
      have hX : ROk w.heap.size wr ⟨⟨code, recs, ns, ng, neg⟩, ra, rc, sa, sc, ga, gc⟩ := ⟨hrok2, hxr.s, hxr.g⟩
      have hBa : Below wr.heap.size wr (wr.alloc (.cells #[.bool pt, .string ⟨nm.toArray⟩, .int .i64 kd, .int .i64 code, .slice ra recs.length rc, .slice sa ns sc, .slice ga ng gc, .int .i64 neg, .int .i64 wt] 33)) := (Below.refl _ wr).alloc (Nat.le_refl _) _
      have henv2 := henv.later (hB.trans (hBa.mono hB.size))
      cases pt with
      | true =>
        have HP := Lib.hid (cachePut_any _ henv2 hI (hC.later hBa) ⟨nm.toArray⟩ kd (t + d) ⟨⟨code, recs, ns, ng, neg⟩, ra, rc, sa, sc, ga, gc⟩ (hX.later hBa))
        have HBa := Lib.hid (hB.trans (hBa.mono hB.size))
        have HI := Lib.hid hI
        have Hroom := Lib.hid hroom
        clear hC hI hB hX hrok2 hxr hwc hcell hBa henv2 hx hroom
        go_wp2_with fail
        refine HP.out.mono ?_
        rintro e w5 ⟨rfl, ⟨xs', v', hC'⟩, hF⟩
        have Ho : Hid (OfInv w.heap.size q w w5 (t + d)) := ⟨_, xs', v', hC', Cb.inv_put HI.out _ _ _ _, (put_room _ _ _ _ _).trans Hroom.out, put_now _ _ _ (by omega), HBa.out.trans hF.below⟩
        clear hC' hF HP
        generalize Cb.putErr c _ _ _ _ = pe
        go_wp2
        refine ⟨⟨k + 1, t + d, by omega, by go_num, rfl, by omega, by omega, Ho⟩, by simp [intOf]; omega⟩
      | false =>
        have HP := Lib.hid (get_any _ henv2 hI (hC.later hBa) ⟨nm.toArray⟩ kd (t + d))
        have HBa := Lib.hid (hB.trans (hBa.mono hB.size))
        have HI := Lib.hid hI
        have Hroom := Lib.hid hroom
        clear hC hI hB hX hrok2 hxr hwc hcell hBa henv2 hx hroom
        go_wp2_with fail
        refine HP.out.mono ?_
        rintro e w5 ⟨xr, rfl, -, -, -, -, ⟨xs', v', hC'⟩, hF⟩
        have Ho : Hid (OfInv w.heap.size q w w5 (t + d)) := ⟨_, xs', v', hC', Cb.inv_get HI.out _ _ _, (get_room _ _ _ _).trans Hroom.out, get_now _ _ (by omega), HBa.out.trans hF.below⟩
        clear hC' hF HP
        generalize (rpV xr).toArray = xv
        generalize (Cb.got c _ _ _).isSome = gs
        generalize Cb.chk c _ _ _ = pe
        go_wp2
        refine ⟨⟨k + 1, t + d, by omega, by go_num, rfl, by omega, by omega, Ho⟩, by simp [intOf]; omega⟩
    · obtain rfl : k = m := by omega
      have hE : OfEnd w.heap.size room w (.returned (.tuple #[.pointer (some ⟨w.heap.size, 0, none⟩), .int .i64 t])) wr := ⟨w.heap.size, c, xs, v, t, rfl, hC, hI, by rw [← Hq.out]; exact hroom, hnow, ht0, by omega, hB⟩
      have HE := Lib.hid hE
      clear hC hI hroom hB hE hnow
      go_wp2
      go_ret2
      exact HE.out
end Go.Proofs.YtajllcbjgndcpaaDoor
