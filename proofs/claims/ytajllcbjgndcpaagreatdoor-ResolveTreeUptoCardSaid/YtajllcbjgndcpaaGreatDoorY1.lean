/- WALKS: reply.exists, reply.negative. -/
import Derived.Test.YtajllcbjgndcpaaGreatDoorZ9
import Derived.Test.YtajllcbjgndcpaaGreatDoorRn
namespace Go.Proofs.YtajllcbjgndcpaaGreatDoor
open Go.RowKit Go.Maps

/-! A block that is known whole. -/
def Blk (w : World) (b : Nat) (cs : Array Value) (T : TypeId) : Prop := w.heap[b]? = some (.cells cs T (0, 0))
theorem Blk.lt {w : World} {b : Nat} {cs : Array Value} {T : TypeId} (h : Blk w b cs T) : b < w.heap.size := (Array.getElem?_eq_some_iff.1 h).1
theorem Blk.later {w w' : World} {b : Nat} {cs : Array Value} {T : TypeId} (h : Blk w b cs T) (hB : Below w.heap.size w w') : Blk w' b cs T := (hB.block b h.lt).trans h
theorem Blk.cell {w : World} {b : Nat} {cs : Array Value} {T : TypeId} (h : Blk w b cs T) (j : Nat) : w.cell? ⟨b, j, none⟩ = cs[j]? := cell_of_row w b j _ _ _ h
theorem blk_new (w : World) (cs : Array Value) (T : TypeId) : Blk (w.alloc (.cells cs T)) w.heap.size cs T := heap_alloc_new w _
theorem blk_second (w : World) (o : Obj) (cs : Array Value) (T : TypeId) : Blk ((w.alloc o).alloc (.cells cs T)) (w.heap.size + 1) cs T := by
  have := heap_alloc_new (w.alloc o) (.cells cs T)
  simpa [Blk] using this
theorem Blk.alloc {w : World} {b : Nat} {cs : Array Value} {T : TypeId} (h : Blk w b cs T) (o : Obj) : Blk (w.alloc o) b cs T := h.later ((Below.refl _ w).alloc (Nat.le_refl _) o)

def HasInv (l : List Cb.Rec) (nm : Lb.Bs) (w0 : World) (k : Nat) (wr : World) : Prop := Rn.has (l.take k) nm = false ∧ Below w0.heap.size w0 wr
def HasEnd (l : List Cb.Rec) (nm : Lb.Bs) (w0 : World) (e : Ending) (w' : World) : Prop := e = .returned (.bool (Rn.has l nm)) ∧ Below w0.heap.size w0 w'
theorem has_next {l : List Cb.Rec} {nm : Lb.Bs} {k : Nat} {x : Cb.Rec} (h : l[k]? = some x) : Rn.has (l.take (k + 1)) nm = (Rn.has (l.take k) nm || Zn.under x.name nm) := by
  unfold Rn.has
  rw [List.take_add_one, h, List.any_append]
  simp
theorem has_found {l : List Cb.Rec} {nm : Lb.Bs} {k : Nat} {x : Cb.Rec} (h : l[k]? = some x) (hu : Zn.under x.name nm = true) : Rn.has l nm = true := by
  unfold Rn.has
  rw [List.any_eq_true]
  exact ⟨x, List.mem_of_getElem? h, hu⟩

set_option maxHeartbeats 6400000 in
set_option maxRecDepth 100000 in
theorem exists_any (B : Nat) (o : Lb.Bs) (za : Option Addr) (zc : Nat) (l : List Cb.Rec) (s : ByteArray) (w : World) (henv : Env w) (hr : Recs B w (.slice za l.length zc) l) : Calls Tryz.prog 55 #[zoneV o za l.length zc, .string s] w (HasEnd l s.data.toList w) := by
  unfold zoneV
  have HBa := Lib.hid ((Below.refl _ w).alloc (Nat.le_refl _) (.cells #[.string ⟨o.toArray⟩, .slice za l.length zc] 24))
  have Hb1 := Lib.hid (blk_new w #[.string ⟨o.toArray⟩, .slice za l.length zc] 24)
  have HR := Lib.hid (hr.later HBa.out)
  have hlen : l.length ≤ 9223372036854775807 := by have := (recs_cap hr).2; unfold maxLen at this; omega
  clear hr
  go_enter Tryz.func55, Tryz.ntmps55
  go_wp2
  generalize w.alloc (.cells #[.string ⟨o.toArray⟩, .slice za l.length zc] 24) = w1 at *
  go_loopw [12] (fun kv wr => ∃ (k : Nat), k ≤ l.length ∧ kv = .int .i64 k ∧ Hid (HasInv l s.data.toList w1 k wr)) (fun kv _ => l.length - (intOf kv).toNat)
  case atStart => exact ⟨0, Nat.zero_le _, rfl, ⟨rfl, Below.refl _ _⟩⟩
  case round =>
    obtain ⟨k, hk, rfl, HI⟩ := hrel
    by_cases hlt : k < l.length
    · obtain ⟨r, hx⟩ : ∃ r, l[k]? = some r := ⟨l[k], List.getElem?_eq_getElem hlt⟩
      obtain ⟨b, p, rfl, hb, c0, c1, c2, c3⟩ := recs_at (HR.out.later HI.out.2) hx
      have hi0 : (0 : Int) ≤ (k : Int) := by omega
      have hi1 : (k : Int) < (l.length : Int) := by omega
      have hnext := has_next (nm := s.data.toList) hx
      rw [HI.out.1, Bool.false_or] at hnext
      have hfound := has_found (nm := s.data.toList) hx
      have hBr := (Below.refl wr.heap.size wr).alloc (Nat.le_refl _) (.cells #[.string ⟨r.name.toArray⟩, .int .i64 r.kind, .int .i64 r.ttl, .string ⟨r.data.toArray⟩] 43)
      have HBr := Lib.hid (HI.out.2.trans (hBr.mono HI.out.2.size))
      have HU := Lib.hid (show Calls Tryz.prog 30 #[.string ⟨r.name.toArray⟩, .string s] (wr.alloc (.cells #[.string ⟨r.name.toArray⟩, .int .i64 r.kind, .int .i64 r.ttl, .string ⟨r.data.toArray⟩] 43)) (UndEnd r.name s.data.toList _) from under_all ⟨r.name.toArray⟩ s _ (henv.later (HBa.out.trans (HBr.out.mono HBa.out.size))))
      unfold UndEnd at HU
      have Hnext := Lib.hid hnext
      have Hfound := Lib.hid hfound
      clear hx hnext hfound hBr
      obtain ⟨nm, kd, ttl, dt⟩ := r
      dsimp only at *
      cases hu : Zn.under nm s.data.toList with
      | false =>
        have hn := Hnext.out
        rw [hu] at HU hn
        have Hn := Lib.hid hn
        clear hu hn Hfound Hnext
        go_wp2_with fail
        refine HU.out.mono ?_
        rintro e w2 ⟨q, rfl, -, hB2⟩
        have HBt := Lib.hid (HBr.out.trans (hB2.mono HBr.out.size))
        clear hB2 c0 c1 c2 c3
        go_wp2
        refine ⟨⟨k + 1, by omega, by go_num, ⟨Hn.out, HBt.out⟩⟩, by simp [intOf]; omega⟩
      | true =>
        rw [hu] at HU
        have Hf := Lib.hid (Hfound.out hu)
        clear hu Hfound Hnext
        go_wp2_with fail
        refine HU.out.mono ?_
        rintro e w2 ⟨q, rfl, -, hB2⟩
        have HBt := Lib.hid (HBr.out.trans (hB2.mono HBr.out.size))
        clear hB2 c0 c1 c2 c3
        go_wp2
        go_ret
        exact ⟨by rw [Hf.out]; rfl, HBa.out.trans (HBt.out.mono HBa.out.size)⟩
    · obtain rfl : k = l.length := by omega
      have hf := HI.out.1
      rw [List.take_length] at hf
      have Hf := Lib.hid hf
      have HBe := Lib.hid (HBa.out.trans (HI.out.2.mono HBa.out.size))
      clear hf
      go_wp2
      go_ret
      exact ⟨by rw [Hf.out]; rfl, HBe.out⟩

/-- What Atoi hands back first. -/
theorem atoi_first (s : ByteArray) (w : World) (henv : EnvZ w) (hs : s.size ≤ 281474976710656) : Calls Tryz.prog 103 #[.string s] w fun e w' => ∃ v, e = .returned (.tuple #[.int .i64 (Zn.num s.data.toList 0).1, v]) ∧ Below w.heap.size w w' := by
  rcases hA : Lib.atoiAll s.data.toList with n | _ | _
  · have hN : (Zn.num s.data.toList 0).1 = n := by unfold Zn.num; rw [hA]
    rw [hN]
    exact (atoi_ok s n hA w hs).mono fun e w' ⟨he, hB⟩ => ⟨_, he, hB⟩
  · rw [num_bad (.inl ⟨by rw [hA]; rfl, rfl⟩)]
    exact (atoi_bad s 0 (.inl ⟨by rw [hA]; rfl, rfl⟩) w henv hs).mono fun e w' ⟨N, he, hB⟩ => ⟨_, he, hB⟩
  · rw [num_bad (.inr ⟨hA, rfl⟩)]
    exact (atoi_bad s _ (.inr ⟨hA, rfl⟩) w henv hs).mono fun e w' ⟨N, he, hB⟩ => ⟨_, he, hB⟩
def AtoiEnd (n : Int) (w0 : World) (e : Ending) (w' : World) : Prop := ∃ v, e = .returned (.tuple #[.int .i64 n, v]) ∧ Below w0.heap.size w0 w'
def NegInv (l : List Cb.Rec) (w0 : World) (k : Nat) (wr : World) : Prop := Rn.negOf l = Rn.negOf (l.drop k) ∧ Below w0.heap.size w0 wr
def NegEnd (l : List Cb.Rec) (w0 : World) (e : Ending) (w' : World) : Prop := e = .returned (.int .i64 (Rn.negOf l)) ∧ Below w0.heap.size w0 w'
theorem neg_drop {L : List Cb.Rec} {k : Nat} {x : Cb.Rec} (h : L[k]? = some x) : L.drop k = x :: L.drop (k + 1) := by
  obtain ⟨h1, rfl⟩ := List.getElem?_eq_some_iff.1 h
  exact List.drop_eq_getElem_cons h1

set_option maxHeartbeats 6400000 in
set_option maxRecDepth 100000 in
theorem negative_any (B : Nat) (o : Lb.Bs) (za : Option Addr) (zc : Nat) (l : List Cb.Rec) (w : World) (henv : EnvZ w) (hr : Recs B w (.slice za l.length zc) l) (hs : ∀ r ∈ l, r.data.length ≤ 1048576) : Calls Tryz.prog 59 #[zoneV o za l.length zc] w (NegEnd l w) := by
  unfold zoneV
  have HBa := Lib.hid ((Below.refl _ w).alloc (Nat.le_refl _) (.cells #[.string ⟨o.toArray⟩, .slice za l.length zc] 24))
  have HR := Lib.hid (hr.later HBa.out)
  have HS := Lib.hid hs
  have hlen : l.length ≤ 9223372036854775807 := by have := (recs_cap hr).2; unfold maxLen at this; omega
  clear hr hs
  go_enter Tryz.func59, Tryz.ntmps59
  go_wp2
  generalize w.alloc (.cells #[.string ⟨o.toArray⟩, .slice za l.length zc] 24) = w1 at *
  go_loopw [10] (fun kv wr => ∃ (k : Nat), k ≤ l.length ∧ kv = .int .i64 k ∧ Hid (NegInv l w1 k wr)) (fun kv _ => l.length - (intOf kv).toNat)
  case atStart => exact ⟨0, Nat.zero_le _, rfl, ⟨rfl, Below.refl _ _⟩⟩
  case round =>
    obtain ⟨k, hk, rfl, HI⟩ := hrel
    by_cases hlt : k < l.length
    · obtain ⟨r, hx⟩ : ∃ r, l[k]? = some r := ⟨l[k], List.getElem?_eq_getElem hlt⟩
      obtain ⟨b, p, rfl, hb, c0, c1, c2, c3⟩ := recs_at (HR.out.later HI.out.2) hx
      have hi0 : (0 : Int) ≤ (k : Int) := by omega
      have hi1 : (k : Int) < (l.length : Int) := by omega
      have hnext := HI.out.1
      rw [neg_drop hx] at hnext
      have hBr := (Below.refl wr.heap.size wr).alloc (Nat.le_refl _) (.cells #[.string ⟨r.name.toArray⟩, .int .i64 r.kind, .int .i64 r.ttl, .string ⟨r.data.toArray⟩] 43)
      have HBr := Lib.hid (HI.out.2.trans (hBr.mono HI.out.2.size))
      have Hbk := Lib.hid (blk_new wr #[.string ⟨r.name.toArray⟩, .int .i64 r.kind, .int .i64 r.ttl, .string ⟨r.data.toArray⟩] 43)
      have hsz := HS.out r (List.mem_of_getElem? hx)
      have HA := Lib.hid (show Calls Tryz.prog 103 #[.string ⟨r.data.toArray⟩] (wr.alloc (.cells #[.string ⟨r.name.toArray⟩, .int .i64 r.kind, .int .i64 r.ttl, .string ⟨r.data.toArray⟩] 43)) (AtoiEnd (Zn.num r.data 0).1 _) from atoi_first ⟨r.data.toArray⟩ _ (henv.later (HBa.out.trans (HBr.out.mono HBa.out.size))) (by rw [size_of]; omega))
      unfold AtoiEnd at HA
      have Hnext := Lib.hid hnext
      clear hx hnext hBr
      obtain ⟨nm, kd, ttl, dt⟩ := r
      dsimp only at *
      by_cases h5 : kd = 5
      · have h5b : (kd == 5) = true := by rw [beq_iff_eq]; exact h5
        have hn := Hnext.out
        rw [show Rn.negOf (⟨nm, kd, ttl, dt⟩ :: l.drop (k + 1)) = min (Zn.num dt 0).1 ttl by conv => lhs; unfold Rn.negOf; rw [if_pos h5]] at hn
        have Hn := Lib.hid hn
        clear hn Hnext h5
        generalize (Zn.num dt 0).1 = q at *
        go_wp2_with fail
        refine HA.out.mono ?_
        rintro e w2 ⟨v, rfl, hB2⟩
        have HBt := Lib.hid (HBr.out.trans (hB2.mono HBr.out.size))
        have hc1 := fun j => (Hbk.out.later hB2).cell j
        clear hB2 c0 c1 c2 c3
        go_wp2
        go_ret
        exact ⟨by rw [Hn.out]; rfl, HBa.out.trans (HBt.out.mono HBa.out.size)⟩
      · have h5b : (kd == 5) = false := beq_eq_false_iff_ne.2 h5
        have hn := Hnext.out
        rw [show Rn.negOf (⟨nm, kd, ttl, dt⟩ :: l.drop (k + 1)) = Rn.negOf (l.drop (k + 1)) by conv => lhs; unfold Rn.negOf; rw [if_neg h5]] at hn
        have Hn := Lib.hid hn
        clear hn Hnext h5
        go_wp2
        refine ⟨⟨k + 1, by omega, by go_num, ⟨Hn.out, HBr.out⟩⟩, by simp [intOf]; omega⟩
    · obtain rfl : k = l.length := by omega
      have hf := HI.out.1
      rw [List.drop_length] at hf
      have Hf := Lib.hid hf
      have HBe := Lib.hid (HBa.out.trans (HI.out.2.mono HBa.out.size))
      clear hf
      go_wp2
      go_ret
      exact ⟨by rw [Hf.out]; rfl, HBe.out⟩
end Go.Proofs.YtajllcbjgndcpaaGreatDoor
