/- WALKS: expire, Size, life. -/
import Derived.Test.YtajllcbjgndcpaaGreatDoorK6
namespace Go.Proofs.YtajllcbjgndcpaaGreatDoor
open Go.RowKit Go.Maps

def liveX (now : Int) (xs : List EV) : List EV := xs.filter fun x => !decide (x.e.til ≤ now)
theorem live_map (now : Int) (xs : List EV) : (liveX now xs).map (·.e) = Cb.live now (xs.map (·.e)) := by
  unfold liveX Cb.live
  rw [List.filter_map]
  rfl
/-- What expire leaves. -/
def ExpEnd (B pb : Nat) (c : Cb.Cac) (xs : List EV) (now : Int) (w0 : World) (e : Ending) (w' : World) : Prop :=
  e = .returned (.tuple #[]) ∧ (∃ v', Cch B pb w' ⟨c.room, now, Cb.live now c.es⟩ (liveX now xs) v') ∧ Fr B pb w0 w'

set_option maxHeartbeats 1600000 in
theorem expire_any {B pb : Nat} {c : Cb.Cac} {xs : List EV} {v : Value} (w : World) (h : Cch B pb w c xs v) (now : Int) :
    Calls Tryz.prog 111 #[.pointer (some ⟨pb, 0, none⟩), .int .i64 now] w (ExpEnd B pb c xs now w) := by
  have hlt := h.lt
  have hsz : (w.setCell ⟨pb, 1, none⟩ (.int .i64 now)).heap.size = w.heap.size := by simp [World.setCell]
  have hbox := heap_alloc_new (w.setCell ⟨pb, 1, none⟩ (.int .i64 now)) (.cells #[.int .i64 now] 3)
  rw [hsz] at hbox
  have h1 := h.setNow now
  have h2 : Cch B pb ((w.setCell ⟨pb, 1, none⟩ (.int .i64 now)).alloc (.cells #[.int .i64 now] 3)) ⟨c.room, now, c.es⟩ xs v := h1.later ((Below.refl _ _).alloc (Nat.le_refl _) _)
  have f0 : Fr B pb w ((w.setCell ⟨pb, 1, none⟩ (.int .i64 now)).alloc (.cells #[.int .i64 now] 3)) := (Fr.setCell h.hpb _ _).trans (Fr.alloc h1.bs _)
  have hcap : ∀ W, ((w.setCell ⟨pb, 1, none⟩ (.int .i64 now)).alloc (.cells #[.int .i64 now] 3)).grownBy W v.ownBlock → W.cell? ⟨w.heap.size, 0, none⟩ = some (.int .i64 now) := by
    intro W hW
    have hvb : some w.heap.size ≠ v.ownBlock := by
      intro e
      obtain ⟨_, hl, _⟩ := h.row.block _ e.symm
      omega
    have e1 := hW.block w.heap.size (by simp [World.setCell]) hvb
    rw [hbox] at e1
    rw [cell_of_row W _ 0 _ _ _ e1]; rfl
  have HD := Lib.hid (deleteFunc_any B 147 #[.pointer (some ⟨w.heap.size, 0, none⟩)] (fun x => decide (x.e.til ≤ now)) v xs _ enters48 (fun W x hW => expire1_any x w.heap.size now W (hcap W hW)) h2.row)
  have k0 := h.c0
  have k1 := h.c1
  have k2 := h.c2
  have kf := h.fz
  have H2 := Lib.hid h2
  have F0 := Lib.hid f0
  clear hbox h1 h2 f0 hcap h hsz
  go_enter Tryz.func111, Tryz.ntmps111
  go_wp2_with fail
  refine HD.out.mono ?_
  rintro e w2 ⟨v', rfl, hr, hv, hg⟩
  obtain ⟨a, cp, rfl, _⟩ := hr.val
  obtain ⟨hC, hF⟩ := H2.out.setRow hr hv hg (live_map now xs) (fun x hx => (List.mem_filter.1 hx).1)
  have j2 : w2.cell? ⟨pb, 2, none⟩ = some v := (World.cell?_of_block (hg.block pb H2.out.lt (Ne.symm H2.out.vne))).trans H2.out.c2
  have jf : w2.frozen? ⟨pb, 2, none⟩ = false := (World.frozen?_of_block (hg.block pb H2.out.lt (Ne.symm H2.out.vne))).trans (H2.out.fz 2)
  have hes : xs.map (·.e) = c.es := H2.out.es
  rw [hes] at hC
  have HC := Lib.hid hC
  have HF := Lib.hid (F0.out.trans hF)
  clear hr hv hg hC hF
  go_wp2
  go_end0
  exact ⟨rfl, ⟨_, HC.out⟩, HF.out⟩

/-- What Size leaves. -/
def SizeEnd (B pb : Nat) (c : Cb.Cac) (xs : List EV) (now : Int) (w0 : World) (e : Ending) (w' : World) : Prop :=
  (Cb.chk c [46] 1 now ≠ 0 → e = .returned (.tuple #[.int .i64 0, .int .i64 (Cb.chk c [46] 1 now)]) ∧ Below w0.heap.size w0 w') ∧
  (Cb.chk c [46] 1 now = 0 → e = .returned (.tuple #[.int .i64 ((Cb.live now c.es).length : Int), .int .i64 0]) ∧ (∃ v', Cch B pb w' ⟨c.room, now, Cb.live now c.es⟩ (liveX now xs) v') ∧ Fr B pb w0 w')
set_option maxHeartbeats 1600000 in
theorem size_any {B pb : Nat} {c : Cb.Cac} {xs : List EV} {v : Value} (w : World) (henv : Env w) (h : Cch B pb w c xs v) (now : Int) :
    Calls Tryz.prog 73 #[.pointer (some ⟨pb, 0, none⟩), .int .i64 now] w (SizeEnd B pb c xs now w) := by
  have HC := check_cache_any w henv h ⟨#[46]⟩ 1 now
  have e0 : (⟨#[46]⟩ : ByteArray).data.toList = [46] := rfl
  rw [e0] at HC
  by_cases hk : Cb.chk c [46] 1 now = 0
  · rw [hk] at HC
    have HC := Lib.hid HC
    have Hk := Lib.hid hk
    clear hk
    go_enter Tryz.func73, Tryz.ntmps73
    go_wp2_with fail
    refine HC.out.mono ?_
    rintro e w1 ⟨rfl, hB⟩
    have h1 := h.later hB
    have F1 := Lib.hid (Fr.of_below (pb := pb) hB h.bs)
    clear HC h
    go_wp2_with fail
    refine (expire_any w1 h1 now).mono ?_
    rintro e w2 ⟨rfl, ⟨v', hC⟩, hF⟩
    obtain ⟨a, cp, rfl, hcp, hcm, _⟩ := hC.row.val
    have k2 := hC.c2
    have hl : (liveX now xs).length = (Cb.live now c.es).length := by have := congrArg List.length hC.es; rwa [List.length_map] at this
    rw [hl] at hcp k2
    have HC2 := Lib.hid hC
    unfold maxLen at hcm
    clear hC hl h1
    go_wp2
    go_ret2
    exact ⟨fun e => absurd Hk.out e, fun _ => ⟨rfl, ⟨_, HC2.out⟩, F1.out.trans hF⟩⟩
  · have hbad : (Cb.chk c [46] 1 now == 0) = false := beq_eq_false_iff_ne.2 hk
    have hbad2 : (Cb.chk c [46] 1 now != 0) = true := by rw [bne, hbad]; rfl
    have Hk := Lib.hid hk
    have HC := Lib.hid HC
    clear hk
    unfold SizeEnd
    generalize Cb.chk c [46] 1 now = q at *
    go_enter Tryz.func73, Tryz.ntmps73
    go_wp2_with fail
    refine HC.out.mono ?_
    rintro e w1 ⟨rfl, hB⟩
    go_wp2
    go_ret2
    exact ⟨fun _ => ⟨rfl, hB⟩, fun e => absurd e Hk.out⟩
end Go.Proofs.YtajllcbjgndcpaaGreatDoor
