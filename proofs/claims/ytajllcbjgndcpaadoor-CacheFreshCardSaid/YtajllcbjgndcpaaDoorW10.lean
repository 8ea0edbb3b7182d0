/- WALK: put. -/
import Derived.Test.YtajllcbjgndcpaaDoorW9
namespace Go.Proofs.YtajllcbjgndcpaaDoor
open Go.RowKit Go.Maps

theorem ownsRow_val {w : World} {base : Nat} {e : TypeId} {size : Nat} {v : Value} {n : Nat} {xs : List Value} (h : w.ownsRow base e size v n xs) : ∃ a cap, v = .slice a n cap := by
  rcases h.2 with ⟨rfl, rfl⟩ | ⟨g, cap, cur, rfl, _⟩
  · exact ⟨_, _, rfl⟩
  · exact ⟨_, _, rfl⟩
theorem OwnStrs.form {B : Nat} {w : World} {a : Option Addr} {cap n : Nat} {l : List Lb.Bs} (h : OwnStrs B w (.slice a n cap) l) (hn : l ≠ []) : ∃ g, a = some ⟨g, 0, none⟩ ∧ cap = l.length := by
  rcases h with ⟨rfl, _⟩ | ⟨_, _, g, hv, _⟩
  · exact absurd rfl hn
  · injection hv with h1 _ h3
    exact ⟨g, h1, h3⟩
theorem OwnStrs.cell {B g n cap k : Nat} {w : World} {l : List Lb.Bs} {x : Lb.Bs} (h : OwnStrs B w (.slice (some ⟨g, 0, none⟩) n cap) l) (hx : l[k]? = some x) : w.cell? ⟨g, k, none⟩ = some (.string ⟨x.toArray⟩) := by
  rcases h with ⟨rfl, _⟩ | ⟨_, _, g', hv, _, hh⟩
  · simp at hx
  · injection hv with h1 _ _
    injection h1 with h1
    injection h1 with h1
    subst h1
    rw [cell_of_row w g k _ _ _ hh]
    simp [hx]
theorem ownStrs_ne {B b : Nat} {w : World} {v : Value} {l : List Lb.Bs} {o : Obj} (h : OwnStrs B w v l) (hb : w.heap[b]? = some o) (ho : ∀ cs : Array Value, o ≠ .cells cs 9 (0, 0)) : v.ownBlock ≠ some b := by
  rcases h with ⟨_, rfl⟩ | ⟨_, _, g, rfl, _, hh⟩
  · simp [Value.ownBlock]
  · intro e
    injection e with e
    subst e
    rw [hh] at hb
    injection hb with hb
    exact ho _ hb.symm
theorem Pk.lne {B pb mb : Nat} {w : World} {v : Value} {b : Lb.Bs} {kn : Lb.Known} {v0 : Value} {l : List Lb.Bs} (h : Pk B pb w v mb b kn) (hO : OwnStrs B w v0 l) : v0.ownBlock = none ∨ v0.ownBlock ≠ v.ownBlock := by
  rcases h.row.2 with ⟨rfl, _⟩ | ⟨g, cap, cur, rfl, _, hh, _⟩
  · cases hv : v0.ownBlock
    · exact .inl rfl
    · exact .inr (by simp [Value.ownBlock])
  · exact .inr (ownStrs_ne hO hh (fun _ e => by cases e))
theorem OwnStrs.store {B pb : Nat} {w w' : World} {v0 v : Value} {l : List Lb.Bs} {cs : Array Value} (h : OwnStrs B w' v0 l) (hb : w.heap[pb]? = some (.cells cs 61 (0, 0))) (hg : w.grownBy w' v.ownBlock) (hv : v.ownBlock ≠ some pb) (hl : pb < w.heap.size) (u : Value) :
    OwnStrs B (w'.setCell ⟨pb, 0, none⟩ u) v0 l :=
  h.grown (row := some pb) ⟨rfl, rfl, rfl, by simp [World.setCell], fun k _ hk => Below.heap_setCell _ _ _ _ (by intro e; subst e; exact hk rfl)⟩
    (.inr (ownStrs_ne h ((hg.block pb hl (Ne.symm hv)).trans hb) (fun _ e => by cases e)))
theorem step_append_str {P : Program} (w : World) {ops : Array Oper} {o : Oper} {a : Act} {K : Act → World → Prop} {Q : Exit → Act → World → Prop} {E : Prop} (hgd : o.guard = none) (sl x : Operand) (t u : TypeId)
    (ho : o.op = .call { callee := .builtin .append, args := #[sl, x], argTypes := #[t, u] })
    (base : Nat) (e : TypeId) (i : TypeInfo) (ht : P.underlying t = some (.slice e)) (hu : P.underlying u = some .string) (hi : P.info? e = some i) (hz : i.zero = some (.int .u8 0))
    (hsize : i.size = 1) (hby : i.bytes = 1)
    (v : Value) (n : Nat) (xs : List Value) (hs : a.eval sl = v) (hown : w.ownsRow base e 1 v n xs) (s : ByteArray) (hx : a.eval x = .string s) (hpos : 0 < s.size)
    (h63 : n + s.size ≤ maxLen) (hbytes : n + s.size ≤ 140737488355328) (hbase : base ≤ w.heap.size)
    (h : ∀ g cap w', w'.ownsRow base e 1 (.slice (some ⟨g, 0, none⟩) (n + s.size) cap) (n + s.size) (xs ++ Lib.strCells s) → w.grownBy w' v.ownBlock → K (a.put o.dst (.slice (some ⟨g, 0, none⟩) (n + s.size) cap)) w') :
    if Region.wanted o (yielded ops a.tmps) = true then Oper.wp P o a w.drew K Q else E := by
  have hw : Region.wanted o (yielded ops a.tmps) = true := by simp [Region.wanted, hgd]
  rw [if_pos hw]
  obtain ⟨v', w', hr, h2, h3, h4⟩ := Lib.run_append_own_string (P := P) w.drew base t u o.type e i ht hu hi hz hsize hby v n xs hown s h63 hbytes hbase
  obtain ⟨g, cap, rfl, _, _⟩ := h2.form (by omega)
  unfold Oper.wp execOp
  simp only [ho, resolve, invoke, builtin, Sem.run_bind, Sem.run_pure, Result.andThen_ok, List.map_toArray, List.map_cons, List.map_nil, hs, hx, hr]
  exact h g cap w' h2 ⟨h3.os, h3.tape, h3.output, h3.size, h3.block⟩
theorem wf_small {n : Nat} (h : n ≤ 16383) : (Lit.int .i64 (n : Int)).wf = true := by
  simp [Lit.wf]
  have : IntKind.i64.min = -9223372036854775808 := by decide
  omega
theorem lit_int {a b : Int} {k : IntKind} (h : (DataW.lit (H := Unit) (.int k a)) = .lit (.int k b)) : a = b := by injection h with h; injection h
theorem keyS (x : Lb.Bs) (hx : x.length ≤ maxLen) : keyOf Tryd.prog 9 (.string ⟨x.toArray⟩) = some (.string x) := by
  rw [keyOf_string Tryd.underlying9]
  simp [mapKey, Tryd.underlying9, size_of, hx]
theorem join_drop_le (l : List Lb.Bs) (k : Nat) : (Lb.join (l.drop k)).length ≤ (Lb.join l).length + 1 := by
  unfold Lb.join
  split
  · simp
  · rename_i h
    have hl : l ≠ [] := by rintro rfl; simp at h
    rw [if_neg hl]
    rcases Lb.join_len_drop l k with h1 | h1
    · rw [h1]; omega
    · omega

/-- What the loop of put carries: at round k the packer holds what the first k labels have left. -/
def PutInv (B pb mb : Nat) (b0 : Lb.Bs) (kn0 : Lb.Known) (l : List Lb.Bs) (k : Nat) (v0 : Value) (w0 wr : World) : Prop :=
  ∃ v b kn, Pk B pb wr v mb b kn ∧ Lb.put b kn (l.drop k) = Lb.put b0 kn0 l ∧ b.length + Lb.plain (l.drop k) ≤ b0.length + Lb.plain l ∧ kn.length + l.length ≤ kn0.length + l.length + k ∧ OwnStrs B wr v0 l ∧ Below B w0 wr
/-- What put leaves. -/
def PutEnd (B pb mb : Nat) (b0 : Lb.Bs) (kn0 : Lb.Known) (l : List Lb.Bs) (w0 : World) (e : Ending) (w' : World) : Prop :=
  e = .returned (.tuple #[]) ∧ (∃ v, Pk B pb w' v mb (Lb.put b0 kn0 l).1 (Lb.put b0 kn0 l).2) ∧ Below B w0 w'

set_option maxHeartbeats 1600000 in
set_option maxRecDepth 100000 in
theorem put_any (B pb mb : Nat) (w : World) (v : Value) (b : Lb.Bs) (kn : Lb.Known) (v0 : Value) (l : List Lb.Bs) (hP : Pk B pb w v mb b kn) (hO : OwnStrs B w v0 l)
    (hlab : ∀ x ∈ l, 1 ≤ x.length ∧ x.length ≤ 20) (hjoin : (Lb.join l).length ≤ 1000) (hb : b.length + Lb.plain l ≤ 30000) (hkn : kn.length + l.length ≤ 30000) (hB : B ≤ w.heap.size) :
    Calls Tryd.prog 25 #[.pointer (some ⟨pb, 0, none⟩), v0] w (PutEnd B pb mb b kn l w) := by
  obtain ⟨a, cap, rfl, hcap, hm, hcell⟩ := hO.strs
  clear hcell
  unfold maxLen at hm
  go_enter Tryd.func25, Tryd.ntmps25
  go_wp2
  go_loopw [10] (fun i wr => ∃ k : Nat, k ≤ l.length ∧ i = .int .i64 k ∧ PutInv B pb mb b kn l k (.slice a l.length cap) w wr) (fun i _ => l.length - (intOf i).toNat)
  case atStart => exact ⟨0, Nat.zero_le _, rfl, _, _, _, hP, rfl, Nat.le_refl _, by omega, hO, Below.refl _ _⟩
  case round =>
    obtain ⟨k, hk, rfl, hinv⟩ := hrel
    by_cases hlt : k < l.length
    · obtain ⟨v1, b1, kn1, hP1, hput, hlen, hkl, hO1, hB1⟩ := hinv
      obtain ⟨x, hx⟩ : ∃ x, l[k]? = some x := ⟨l[k], List.getElem?_eq_getElem hlt⟩
      obtain ⟨g0, rfl, rfl⟩ := hO1.form (by intro e; rw [e] at hlt; simp at hlt)
      have hd := drop_at hx
      have hjk := join_drop_le l k
      have hS1 := hO1.strs
      have hD2 := (hS1.drop hk).2 (show ¬ l.length = k by omega)
      simp only [Option.map_some, add_at, Nat.zero_add] at hD2
      have Hd := Lib.hid hd
      have Hx := Lib.hid hx
      have Hput := Lib.hid hput
      have HD2 := Lib.hid hD2
      clear hd hput hS1 hD2 hx
      have hcapk : ¬ l.length = k := by omega
      go_wp2_with fail
      refine (join_any _ (l.drop k) _ HD2.out (by omega)).mono ?_
      rintro e w2 ⟨rfl, hB2⟩
      have hP2 := hP1.later hB2
      have hO2 := hO1.later hB2 (Nat.le_refl _)
      have hBw2 := hB1.trans (hB2.mono (Nat.le_trans hB hB1.size))
      have hkey := keyS (Lb.join (l.drop k)) (by unfold maxLen; omega)
      have c0 := hP2.c0
      have c1 := hP2.c1
      have hmap := hP2.map
      clear hP1 hO1 hB1 HD2 hjk
      cases hf : Lb.find kn1 (Lb.join (l.drop k)) with
      | some t =>
        have hhas : Maps.has (dat kn1) (.string (Lb.join (l.drop k))) = true := by rw [has_dat, hf]; rfl
        have hat0 := atKey_dat (Lb.join (l.drop k)) (.lit (.int .i64 0)) kn1 t hf
        have Hat0 := Lib.hid hat0
        have Hf := Lib.hid hf
        clear hat0 hf
        have hrow := hP2.row
        obtain ⟨i0, hi, hz0, hz1, hz2⟩ := info_parts info5
        go_wp2_with (first | (at_lookup; refine wpList_lookup_own_ok_int _ rfl _ _ 58 rfl 9 3 .i64 law9 Tryd.underlying58 Tryd.underlying3 (zero3 _) mb kn1.length (dat kn1) rfl hmap _ _ rfl hkey ?_; intro c hat hwc; obtain rfl : c = (t : Int) := lit_int (hat.symm.trans Hat0.out); clear hat hwc) | (at_builtin; refine wpList_append_own _ rfl _ _ 59 rfl B 5 i0 (.int .u8 0) 1 1 Tryd.underlying59 hi hz0 hz1 hz2 rfl (by decide) _ _ _ rfl (hrow.alloc _) ⟨w2.heap.size, 0, none⟩ 2 2 _ rfl rfl (World.news_of_block (heap_alloc_new _ _)) ?c2F ?c3F ?c4F ?c5F ?_))
        case c2F => exact ⟨rfl, rfl⟩
        case c3F => unfold maxLen; omega
        case c4F => omega
        case c5F => have := hB2.size; have := hBw2.size; simp; omega
        intro v' w1 hown' hgrow' _
        have hown2 : w1.ownsRow B 5 1 v' (b1.length + [UInt8.ofNat (192 + t / 256), UInt8.ofNat (t % 256)].length) (bytesV b1 ++ bytesV [UInt8.ofNat (192 + t / 256), UInt8.ofNat (t % 256)]) := by
          have h : bytesV [UInt8.ofNat (192 + t / 256), UInt8.ofNat (t % 256)] = [.int .u8 (bits BinOp.or IntKind.u8 192 ((t : Int) / 256 % 256)), .int .u8 ((t : Int) % 256)] := by
            rw [hi_byte (hP2.off _ (Lb.find_some Hf.out)), lo_byte]; rfl
          rw [h]
          exact hown'
        have hg := (World.grownBy_alloc w2 (.cells #[.int .u8 (bits BinOp.or IntKind.u8 192 ((t : Int) / 256 % 256)), .int .u8 ((t : Int) % 256)] 5) v1.ownBlock).trans hgrow'
        have hP3 := hP2.push hown2 hg
        obtain ⟨g, cap', rfl, _⟩ := hown'.form (by omega)
        have e0 : w1.cell? ⟨pb, 0, none⟩ = some v1 := (World.cell?_of_block (hg.block pb hP2.lt (Ne.symm hP2.vne.1))).trans c0
        have e1 : w1.frozen? ⟨pb, 0, none⟩ = false := (World.frozen?_of_block (hg.block pb hP2.lt (Ne.symm hP2.vne.1))).trans hP2.f0
        have hBl := (hBw2.grown hg (by have := hBw2.size; omega) (fun k hk => (hP2.own k hk).1)).setCell (p := ⟨pb, 0, none⟩) hP2.hpb (.slice (some ⟨g, 0, none⟩) (b1.length + 2) cap')
        have HP3 : Hid (∃ v, Pk B pb (w1.setCell ⟨pb, 0, none⟩ (.slice (some ⟨g, 0, none⟩) (b1.length + 2) cap')) v mb (Lb.put b kn l).1 (Lb.put b kn l).2) := by
          have e : Lb.put b1 kn1 (l.drop k) = (b1 ++ [UInt8.ofNat (192 + t / 256), UInt8.ofNat (t % 256)], kn1) := by
            have hf := Hf.out
            rw [Hd.out] at hf ⊢
            unfold Lb.put
            rw [hf]
          rw [← Hput.out, e]
          exact Lib.hid ⟨_, hP3⟩
        clear hown' hown2 hgrow' hg hrow c0 hP3
        go_wp2
        go_end0
        exact ⟨rfl, HP3.out, hBl⟩
      | none =>
        have hhas : Maps.has (dat kn1) (.string (Lb.join (l.drop k))) = false := by rw [has_dat, hf]; rfl
        have Hf := Lib.hid hf
        clear hf
        obtain ⟨i0, hi, hz0, hz1, hz2⟩ := info_parts info5
        obtain ⟨av, capv, rfl⟩ := ownsRow_val hP2.row
        have hb1 : b1.length ≤ 30000 := by omega
        go_wp2_with (at_lookup; refine wpList_lookup_own_ok_int _ rfl _ _ 58 rfl 9 3 .i64 law9 Tryd.underlying58 Tryd.underlying3 (zero3 _) mb kn1.length (dat kn1) rfl hmap _ _ rfl hkey ?_; intro c hat hwc; clear hat hwc)
        go_still_tail 12, (by kernel_rfl)
        have hmap2 : w2.drew.ownsMap Tryd.prog 9 (plainElem Tryd.prog 3) mb kn1.length (dat kn1) := hmap
        refine wpList_mapUpdate_own w2.drew rfl _ _ _ 58 rfl 9 3 law9 Tryd.underlying58 _ mb kn1.length (dat kn1) rfl hmap2 (by unfold maxLen; omega) _ _ _ rfl rfl hkey (.lit (.int .i64 ((min b1.length 16383 : Nat) : Int))) [] ?hval ?_
        case hval =>
          go_simp
          rw [show (max 0 (min (b1.length : Int) 16383)) = ((min b1.length 16383 : Nat) : Int) by omega]
          exact plainElem_int Tryd.underlying3 (wf_small (by omega))
        intro w3 hown3 hg3
        have hg3' : w2.grownBy w3 (some mb) := ⟨hg3.os, hg3.tape, hg3.output, hg3.size, hg3.block⟩
        have hP3 := hP2.know hown3 hg3' (by omega)
        have hO3 := hO2.grown hg3' (.inr (by
          obtain ⟨es, clock, hh, _⟩ := hP2.map
          exact ownStrs_ne hO2 hh (fun _ e => by cases e)))
        have hB3 := hBw2.grown hg3' (by have := hBw2.size; omega) (fun j hj => by injection hj with hj; subst hj; exact hP2.hmb)
        clear hown3 hg3 hg3' hmap hmap2 hhas c0 c1 hP2 hO2 hBw2 hB2 hkey
        have c0 := hP3.c0
        have cx := hO3.cell Hx.out
        have hrow := hP3.row
        have hx1 := hlab x (List.mem_of_getElem? Hx.out)
        have hx255 : x.length ≤ 255 := by omega
        have hxpos : 0 < x.length := by omega
        clear hx1
        have hne0 := hP3.lne hO3
        have hplt := hP3.lt
        have hglt := World.block_lt_of_cell? w3 _ cx
        simp only at hglt
        have k0 : (0 : Int) ≤ (k : Int) := by omega
        have k1 : (k : Int) < (l.length : Int) := by omega
        go_wp2_with fail
        go_region_law
          ((refine step_append_lies _ (by rfl) _ _ _ (by rfl) B 5 i0 _ 1 1 Tryd.underlying59 hi hz0 hz1 hz2 rfl (by omega) (.slice av b1.length capv) b1.length (bytesV b1) (by rfl) ((hrow.alloc _).drew) ⟨w3.heap.size, 0, none⟩ 1 1 [.int .u8 (IntKind.u8.wrap (x.length : Int))] (by rfl) (by rfl) (World.news_of_block (cs := #[.int .u8 (IntKind.u8.wrap (x.length : Int))]) (t := 5) (fr := (0, 0)) (heap_alloc_new w3 _)) (by simp [Value.oneCell']) (by omega) (by unfold maxLen; omega) (by omega) (by simp; have := hB3.size; omega) (w3.heap.size + 1) (by simp) ?_; intro gg cap1 w4 hown4 hg4 hat hlt4; have hg5 : w3.grownBy w4 (Value.slice av b1.length capv).ownBlock := (World.grownBy_alloc w3 (.cells #[.int .u8 (IntKind.u8.wrap (x.length : Int))] 5) _).trans ⟨hg4.os, hg4.tape, hg4.output, hg4.size, hg4.block⟩; have e0 : w4.cell? ⟨pb, 0, none⟩ = some (.slice av b1.length capv) := (World.cell?_of_block (hg5.block pb hP3.lt (Ne.symm hP3.vne.1))).trans c0; have e1 : w4.frozen? ⟨pb, 0, none⟩ = false := (World.frozen?_of_block (hg5.block pb hP3.lt (Ne.symm hP3.vne.1))).trans hP3.f0; have ex := (hO3.grown hg5 hne0).cell Hx.out))
        all_goals
          have hown5 : w4.ownsRow B 5 1 (.slice (some ⟨gg, 0, none⟩) (b1.length + 1) cap1) (b1.length + [UInt8.ofNat x.length].length) (bytesV b1 ++ bytesV [UInt8.ofNat x.length]) := by
            have h : bytesV [UInt8.ofNat x.length] = [.int .u8 (IntKind.u8.wrap (x.length : Int))] := by
              rw [IntWalk.u8_in _ ⟨by omega, by omega⟩, len_byte (show x.length < 256 by omega)]; rfl
            rw [h]
            exact hown4
          have hP4 := hP3.push hown5 hg5
          have hO4 := (hO3.grown hg5 hne0).store hP3.blk hg5 hP3.vne.1 hP3.lt (.slice (some ⟨gg, 0, none⟩) (b1.length + 1) cap1)
          have hB4 := (hB3.grown hg5 (by have := hB3.size; omega) (fun j hj => (hP3.own j hj).1)).setCell (p := ⟨pb, 0, none⟩) hP3.hpb (.slice (some ⟨gg, 0, none⟩) (b1.length + 1) cap1)
          clear hown4 hg4 hown5 hg5 e0 e1 ex hat hlt4 c0 cx hrow hP3 hO3 hne0 hplt hglt hB3
          generalize w4.setCell ⟨pb, 0, none⟩ (.slice (some ⟨gg, 0, none⟩) (b1.length + 1) cap1) = w5 at *
          have c0 := hP4.c0
          have cx := hO4.cell Hx.out
          have hrow := hP4.row
          have hb2 : (b1 ++ [UInt8.ofNat x.length]).length = b1.length + 1 := by simp
          go_wp2_with fail
          have hbase : B ≤ w5.heap.size := by have := hB4.size; omega
          have hplt := hP4.lt
          have hglt := World.block_lt_of_cell? w5 _ cx
          simp only at hglt
          go_region_law ((refine step_append_str _ (by rfl) _ _ 59 9 (by rfl) B 5 i0 Tryd.underlying59 Tryd.underlying9 hi hz0 hz1 hz2 (.slice (some ⟨gg, 0, none⟩) (b1.length + 1) cap1) (b1 ++ [UInt8.ofNat x.length]).length (bytesV (b1 ++ [UInt8.ofNat x.length])) (by rfl) hrow ⟨x.toArray⟩ (by rfl) (by rw [size_of]; omega) (by rw [size_of]; unfold maxLen; omega) (by rw [size_of]; omega) hbase ?_; intro g5 cap5 w6 hown6 hg6; have e0 : w6.cell? ⟨pb, 0, none⟩ = some (.slice (some ⟨gg, 0, none⟩) (b1.length + 1) cap1) := (World.cell?_of_block (hg6.block pb hP4.lt (Ne.symm hP4.vne.1))).trans c0; have e1 : w6.frozen? ⟨pb, 0, none⟩ = false := (World.frozen?_of_block (hg6.block pb hP4.lt (Ne.symm hP4.vne.1))).trans hP4.f0))
          all_goals
            have hown7 : w6.ownsRow B 5 1 (.slice (some ⟨g5, 0, none⟩) ((b1 ++ [UInt8.ofNat x.length]).length + (⟨x.toArray⟩ : ByteArray).size) cap5) ((b1 ++ [UInt8.ofNat x.length]).length + x.length) (bytesV (b1 ++ [UInt8.ofNat x.length]) ++ bytesV x) := by
              rw [size_of] at hown6 ⊢
              exact hown6
            have hP7 := hP4.push hown7 hg6
            have hO7 := (hO4.grown hg6 (hP4.lne hO4)).store hP4.blk hg6 hP4.vne.1 hP4.lt (.slice (some ⟨g5, 0, none⟩) ((b1 ++ [UInt8.ofNat x.length]).length + (⟨x.toArray⟩ : ByteArray).size) cap5)
            have hB7 := (hB4.grown hg6 hbase (fun j hj => (hP4.own j hj).1)).setCell (p := ⟨pb, 0, none⟩) hP4.hpb (.slice (some ⟨g5, 0, none⟩) ((b1 ++ [UInt8.ofNat x.length]).length + (⟨x.toArray⟩ : ByteArray).size) cap5)
            clear hown6 hown7 hg6 e0 e1 c0 cx hrow hP4 hO4 hB4 hplt hglt hbase
            have hinv : PutInv B pb mb b kn l (k + 1) (.slice (some ⟨g0, 0, none⟩) l.length l.length) w (w6.setCell ⟨pb, 0, none⟩ (.slice (some ⟨g5, 0, none⟩) ((b1 ++ [UInt8.ofNat x.length]).length + (⟨x.toArray⟩ : ByteArray).size) cap5)) := by
              refine ⟨_, _, _, hP7, ?_, ?_, ?_, hO7, hB7⟩
              · rw [← Hput.out]
                have hf := Hf.out
                rw [Hd.out] at hf ⊢
                conv => rhs; unfold Lb.put
                rw [hf]
                simp only [List.append_assoc, List.singleton_append]
              · have h2 := hlen
                rw [Hd.out] at h2
                simp only [Lb.plain] at h2
                simp only [List.length_append, List.length_singleton]
                omega
              · simp only [List.length_cons]; omega
            rw [hb2, size_of] at hinv
            clear hP7 hO7 hB7
            go_wp2
            exact ⟨⟨k + 1, by omega, by go_num, hinv⟩, by simp [intOf]; omega⟩
    · obtain ⟨v1, b1, kn1, hP1, hput, hlen, hkl, hO1, hB1⟩ := hinv
      have hd : l.drop k = [] := List.drop_eq_nil_iff.2 (by omega)
      rw [hd] at hput hlen
      have Hput := Lib.hid hput
      have hlen2 : b1.length + 1 ≤ 30000 := by simp only [Lb.plain] at hlen; omega
      clear hput hlen hd
      have c0 := hP1.c0
      have hrow := hP1.row
      obtain ⟨i0, hi, hz0, hz1, hz2⟩ := info_parts info5
      go_wp2_with (at_builtin; refine wpList_append_own _ rfl _ _ 59 rfl B 5 i0 (.int .u8 0) 1 1 Tryd.underlying59 hi hz0 hz1 hz2 rfl (by decide) _ _ _ rfl (hrow.alloc _) ⟨wr.heap.size, 0, none⟩ 1 1 [.int .u8 0] rfl rfl (cell_one_new _ _ _) ?c2 ?c3 ?c4 ?c5 ?_)
      case c2 => intro u hu; simp at hu; subst hu; rfl
      case c3 => unfold maxLen; omega
      case c4 => omega
      case c5 => have := hB1.size; simp; omega
      intro v' w1 hown' hgrow' _
      have hg := (World.grownBy_alloc wr (.cells #[.int .u8 0] 5) v1.ownBlock).trans hgrow'
      have hP2 := hP1.push (x := [0]) hown' hg
      obtain ⟨g, cap', rfl, _⟩ := hown'.form (by omega)
      have e0 : w1.cell? ⟨pb, 0, none⟩ = some v1 := (World.cell?_of_block (hg.block pb hP1.lt (Ne.symm hP1.vne.1))).trans c0
      have e1 : w1.frozen? ⟨pb, 0, none⟩ = false := (World.frozen?_of_block (hg.block pb hP1.lt (Ne.symm hP1.vne.1))).trans hP1.f0
      have hBl := (hB1.grown hg (by have := hB1.size; omega) (fun k hk => (hP1.own k hk).1)).setCell (p := ⟨pb, 0, none⟩) hP1.hpb (.slice (some ⟨g, 0, none⟩) (b1.length + 1) cap')
      have HP2 : Hid (∃ v, Pk B pb (w1.setCell ⟨pb, 0, none⟩ (.slice (some ⟨g, 0, none⟩) (b1.length + 1) cap')) v mb (Lb.put b kn l).1 (Lb.put b kn l).2) := by
        have h : ∃ v, Pk B pb (w1.setCell ⟨pb, 0, none⟩ (.slice (some ⟨g, 0, none⟩) (b1.length + 1) cap')) v mb (Lb.put b1 kn1 []).1 (Lb.put b1 kn1 []).2 := ⟨_, hP2⟩
        rw [Hput.out] at h
        exact Lib.hid h
      clear hown' hgrow' hg hrow c0 hP2
      go_wp2
      go_end0
      exact ⟨rfl, HP2.out, hBl⟩
end Go.Proofs.YtajllcbjgndcpaaDoor
