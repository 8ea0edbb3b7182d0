/- WORDS: rows of strings of the call's own (for the seat without the packer). -/
import Derived.Test.YtajllcbjgndcpaaGreatDoorW8
import Derived.Deep.AppendLies
import Derived.Deep.DrawnRows
import Derived.Deep.RegionHeldLaw
import Derived.Lib.AppendStr
import Derived.Maps.OwnSet
import Derived.StillTailTactics
import Derived.Deep.MidRow
namespace Go.Proofs.YtajllcbjgndcpaaGreatDoor
open Go.RowKit Go.Maps

theorem ownsRow_val {w : World} {base : Nat} {e : TypeId} {size : Nat} {v : Value} {n : Nat} {xs : List Value} (h : w.ownsRow base e size v n xs) : ∃ a cap, v = .slice a n cap := by
  rcases h.2 with ⟨rfl, rfl⟩ | ⟨g, cap, cur, rfl, _⟩
  · exact ⟨_, _, rfl⟩
  · exact ⟨_, _, rfl⟩
theorem info9 : (Tryz.prog.info? 9).map (fun i => (i.zero, i.size, i.bytes)) = some (some (.string ⟨#[]⟩), 1, 16) := by kernel_rfl
theorem info_parts' {i? : Option TypeInfo} {z : Value} {a b : Nat} (h : i?.map (fun i => (i.zero, i.size, i.bytes)) = some (some z, a, b)) : ∃ i, i? = some i ∧ i.zero = some z ∧ i.size = a ∧ i.bytes = b := by
  cases i? with
  | none => cases h
  | some i => simp at h; exact ⟨i, rfl, h.1, h.2.1, h.2.2⟩

/-- A row of strings of the call's own. -/
def strV (l : List Lb.Bs) : List Value := l.map fun x => .string ⟨x.toArray⟩
def RowS (B : Nat) (w : World) (v : Value) (l : List Lb.Bs) : Prop := w.ownsRow B 9 1 v l.length (strV l)
theorem RowS.strs {B : Nat} {w : World} {v : Value} {l : List Lb.Bs} (h : RowS B w v l) : Strs w v l := by
  rcases h.2 with ⟨rfl, hn⟩ | ⟨g, cap, cur, rfl, _, hg, h1, h2, _⟩
  · have : l = [] := List.eq_nil_of_length_eq_zero hn
    subst this
    exact ⟨none, 0, rfl, Nat.le_refl _, by unfold maxLen; omega, fun h => absurd rfl h⟩
  · refine ⟨_, cap, rfl, h1, h2, fun _ => ⟨g, 0, rfl, (Array.getElem?_eq_some_iff.1 hg).1, fun j x hx => ?_⟩⟩
    have := World.ownsRow.cells h (g := g) rfl j (.string ⟨x.toArray⟩) (by simp [strV, hx])
    rw [add_at] at this
    rw [this]
theorem RowS.later {B : Nat} {w w' : World} {v : Value} {l : List Lb.Bs} (h : RowS B w v l) (hb : Below w.heap.size w w') : RowS B w' v l := by
  refine ⟨h.1, ?_⟩
  rcases h.2 with h2 | ⟨g, cap, cur, h2, h3, h4, h5⟩
  · exact .inl h2
  · exact .inr ⟨g, cap, cur, h2, h3, (hb.block g (Array.getElem?_eq_some_iff.1 h4).1).trans h4, h5⟩

theorem RowS.own {B : Nat} {w : World} {v : Value} {l : List Lb.Bs} (h : RowS B w v l) (k : Nat) (hk : v.ownBlock = some k) : B ≤ k := by
  rcases h.2 with ⟨rfl, _⟩ | ⟨g, cap, cur, rfl, h3, _⟩
  · cases hk
  · injection hk with hk; subst hk; exact h3
end Go.Proofs.YtajllcbjgndcpaaGreatDoor
