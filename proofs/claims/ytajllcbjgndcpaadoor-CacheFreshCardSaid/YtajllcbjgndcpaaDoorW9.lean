/- The packer as it lies in memory: its struct, its bytes, its map. -/
import Derived.Test.YtajllcbjgndcpaaDoorW8
import Derived.Maps.OwnSet
import Derived.Deep.RegionHeldLaw
import Derived.Deep.AppendLies
import Derived.Deep.DrawnRows
import Derived.Lib.AppendStr
import Derived.StillTailTactics
namespace Go.Proofs.YtajllcbjgndcpaaDoor
open Go.RowKit Go.Maps

theorem law9 : Keyed Tryd.prog 9 := string_keyed Tryd.underlying9
theorem zero3 (w : World) : (zeroValue 3).run Tryd.prog w = .ok (.int .i64 0) w := by kernel_rfl
theorem info5 : (Tryd.prog.info? 5).map (fun i => (i.zero, i.size, i.bytes)) = some (some (.int .u8 0), 1, 1) := by kernel_rfl

/-- The known names as the map reads. -/
def dat : Lb.Known → DataW Unit
  | [] => .map []
  | p :: r => (dat r).put (.string p.1) (.lit (.int .i64 p.2))
theorem dat_isMap : ∀ kn, IsMap (dat kn)
  | [] => isMap_empty
  | _ :: r => (dat_isMap r).put _ _
theorem keyLit (k : Lb.Bs) : WideAt.IsKeyLit (.string k) := trivial
theorem find_cons (p : Lb.Bs × Nat) (kn : Lb.Known) (key : Lb.Bs) : Lb.find (p :: kn) key = if p.1 = key then some p.2 else Lb.find kn key := by
  unfold Lb.find
  rw [List.find?_cons]
  by_cases h : p.1 = key
  · simp [h]
  · have : (p.1 == key) = false := by simpa using h
    rw [this, if_neg h]
theorem lit_ne {a b : Lb.Bs} (h : ¬ a = b) : (Lit.string b) ≠ .string a := by intro e; injection e with e; exact h e.symm
theorem has_dat (key : Lb.Bs) : ∀ kn, Maps.has (dat kn) (.string key) = (Lb.find kn key).isSome
  | [] => rfl
  | p :: r => by
    rw [find_cons]
    unfold dat
    by_cases h : p.1 = key
    · rw [if_pos h, h, has_put_same (dat_isMap r) (keyLit _)]; rfl
    · rw [if_neg h, has_put_other (lit_ne h), has_dat key r]
theorem atKey_dat (key : Lb.Bs) (z : DataW Unit) : ∀ kn t, Lb.find kn key = some t → (dat kn).atKey (.string key) z = .lit (.int .i64 t)
  | [], t, h => by simp [Lb.find] at h
  | p :: r, t, h => by
    rw [find_cons] at h
    unfold dat
    by_cases hp : p.1 = key
    · rw [if_pos hp] at h
      injection h with h
      rw [hp, h, atKey_put_same (dat_isMap r) (keyLit _)]
    · rw [if_neg hp] at h
      rw [atKey_put_other (lit_ne hp), atKey_dat key z r t h]

def bytesV (b : Lb.Bs) : List Value := b.map fun c => .int .u8 (c.toNat : Int)
/-- The packer at block pb: its bytes in a row of the call's own, its map. -/
structure Pk (B pb : Nat) (w : World) (v : Value) (mb : Nat) (b : Lb.Bs) (kn : Lb.Known) : Prop where
  hpb : B ≤ pb
  hmb : B ≤ mb
  blk : w.heap[pb]? = some (.cells #[v, .map (some mb)] 61 (0, 0))
  row : w.ownsRow B 5 1 v b.length (bytesV b)
  map : w.ownsMap Tryd.prog 9 (plainElem Tryd.prog 3) mb kn.length (dat kn)
  off : ∀ p ∈ kn, p.2 ≤ 16383

section
variable {B pb mb : Nat} {w w' : World} {v : Value} {b : Lb.Bs} {kn : Lb.Known}
theorem Pk.lt (h : Pk B pb w v mb b kn) : pb < w.heap.size := (Array.getElem?_eq_some_iff.1 h.blk).1
theorem Pk.mlt (h : Pk B pb w v mb b kn) : mb < w.heap.size := by
  obtain ⟨es, clock, hh, _⟩ := h.map
  exact (Array.getElem?_eq_some_iff.1 hh).1
theorem Pk.c0 (h : Pk B pb w v mb b kn) : w.cell? ⟨pb, 0, none⟩ = some v := by rw [cell_of_row w pb 0 _ _ _ h.blk]; rfl
theorem Pk.c1 (h : Pk B pb w v mb b kn) : w.cell? ⟨pb, 1, none⟩ = some (.map (some mb)) := by rw [cell_of_row w pb 1 _ _ _ h.blk]; rfl
theorem Pk.f0 (h : Pk B pb w v mb b kn) : w.frozen? ⟨pb, 0, none⟩ = false := by simp [World.frozen?, h.blk]
theorem Pk.mne (h : Pk B pb w v mb b kn) : mb ≠ pb := by
  obtain ⟨es, clock, hh, _⟩ := h.map
  intro e; subst e; rw [h.blk] at hh; cases hh
theorem Pk.vne (h : Pk B pb w v mb b kn) : v.ownBlock ≠ some pb ∧ v.ownBlock ≠ some mb := by
  rcases h.row.2 with ⟨rfl, _⟩ | ⟨g, cap, cur, rfl, hg, hh, _⟩
  · simp [Value.ownBlock]
  · obtain ⟨es, clock, hm, _⟩ := h.map
    constructor
    · intro e; injection e with e; subst e; have hb := h.blk; rw [hh] at hb; injection hb with hb; injection hb with _ hb; cases hb
    · intro e; injection e with e; subst e; rw [hh] at hm; cases hm
theorem Pk.own (h : Pk B pb w v mb b kn) : ∀ g, v.ownBlock = some g → B ≤ g ∧ g < w.heap.size := h.row.lt
/-- All of it lies below the heap's end: what happens beyond leaves it. -/
theorem Pk.later (h : Pk B pb w v mb b kn) (hb : Below w.heap.size w w') : Pk B pb w' v mb b kn where
  hpb := h.hpb
  hmb := h.hmb
  blk := (hb.block pb h.lt).trans h.blk
  row := h.row.kept ⟨hb.os, hb.tape, hb.output, hb.size, fun k hk _ => hb.block k hk⟩ (by cases hv : v.ownBlock <;> simp : v.ownBlock = none ∨ v.ownBlock ≠ none)
  map := by
    obtain ⟨es, clock, hh, r⟩ := h.map
    exact ⟨es, clock, (hb.block mb (Array.getElem?_eq_some_iff.1 hh).1).trans hh, r⟩
  off := h.off
/-- Behind an append to its bytes and the store of the new slice. -/
theorem Pk.push (h : Pk B pb w v mb b kn) {v' : Value} {x : Lb.Bs} (hrow : w'.ownsRow B 5 1 v' (b.length + x.length) (bytesV b ++ bytesV x)) (hg : w.grownBy w' v.ownBlock) :
    Pk B pb (w'.setCell ⟨pb, 0, none⟩ v') v' mb (b ++ x) kn where
  hpb := h.hpb
  hmb := h.hmb
  blk := by
    have e : w'.heap[pb]? = some (.cells #[v, .map (some mb)] 61 (0, 0)) := (hg.block pb h.lt (Ne.symm h.vne.1)).trans h.blk
    show (w'.heap.modify pb _)[pb]? = _
    rw [Array.getElem?_modify, if_pos rfl, e]
    rfl
  row := by
    have hne : v'.ownBlock ≠ some pb := by
      rcases hrow.2 with ⟨rfl, _⟩ | ⟨g, cap, cur, rfl, _, hh, _⟩
      · simp [Value.ownBlock]
      · intro e; injection e with e; subst e
        have := (hg.block _ h.lt (Ne.symm h.vne.1)).trans h.blk
        rw [hh] at this; injection this with this; injection this with _ this; cases this
    have := hrow.kept (w' := w'.setCell ⟨pb, 0, none⟩ v') (row := some pb) ⟨rfl, rfl, rfl, by simp [World.setCell], fun k _ hk => Below.heap_setCell _ _ _ _ (by intro e; subst e; exact hk rfl)⟩ (.inr hne)
    simpa [bytesV, List.length_append] using this
  map := by
    obtain ⟨es, clock, hh, r⟩ := h.map
    refine ⟨es, clock, ?_, r⟩
    rw [Below.heap_setCell _ _ _ _ (show mb ≠ pb from h.mne), hg.block mb (Array.getElem?_eq_some_iff.1 hh).1 (Ne.symm h.vne.2)]
    exact hh
  off := h.off
/-- Behind a store into its map. -/
theorem Pk.know (h : Pk B pb w v mb b kn) {key : Lb.Bs} {t : Nat} (hmap : w'.ownsMap Tryd.prog 9 (plainElem Tryd.prog 3) mb (kn.length + 1) ((dat kn).put (.string key) (.lit (.int .i64 t)))) (hg : w.grownBy w' (some mb)) (ht : t ≤ 16383) :
    Pk B pb w' v mb b ((key, t) :: kn) where
  hpb := h.hpb
  hmb := h.hmb
  blk := (hg.block pb h.lt (by intro e; injection e with e; exact h.mne e.symm)).trans h.blk
  row := h.row.kept hg (.inr h.vne.2)
  map := hmap
  off := by
    intro p hp
    rcases List.mem_cons.1 hp with rfl | hp
    · exact ht
    · exact h.off p hp
end
theorem hi_byte {t : Nat} (h : t ≤ 16383) : bits BinOp.or IntKind.u8 192 ((t : Int) / 256 % 256) = ((UInt8.ofNat (192 + t / 256)).toNat : Int) := by
  have key : ∀ q : Fin 64, bits BinOp.or IntKind.u8 192 ((q.val : Int) % 256) = ((UInt8.ofNat (192 + q.val)).toNat : Int) := by decide
  have := key ⟨t / 256, by omega⟩
  simp only at this
  rw [← this]
  rfl
theorem lo_byte (t : Nat) : (t : Int) % 256 = ((UInt8.ofNat (t % 256)).toNat : Int) := by
  rw [Lb.u8 (by omega)]; omega
theorem len_byte {n : Nat} (h : n < 256) : (n : Int) = ((UInt8.ofNat n).toNat : Int) := by rw [Lb.u8 h]
end Go.Proofs.YtajllcbjgndcpaaDoor
