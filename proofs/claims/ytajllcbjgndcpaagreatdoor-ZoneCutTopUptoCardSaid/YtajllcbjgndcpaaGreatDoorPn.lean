/- PLAIN MODEL (no program in sight): the text of a zone. -/
import Derived.Test.YtajllcbjgndcpaaGreatDoorRn
import Derived.Lib.TrimByte
import Derived.Lib.ItoaLen
namespace Go.Proofs.YtajllcbjgndcpaaGreatDoor.Pn
open Lb Zn

def kindB : List Bs := [[], [97, 100, 100, 114], [97, 108, 105, 97, 115], [115, 101, 114, 118, 101], [116, 101, 120, 116], [115, 116, 97, 114, 116]]
/-- A line ahead of the cut at its end. -/
def long (r : Rec) : Bs := ((((((r.name ++ [32]) ++ Lib.itoa r.ttl) ++ [32]) ++ kindB.getD r.kind.toNat []) ++ [32]) ++ r.data)
def line (r : Rec) : Bs := Lib.trimRightB (long r) 32 ++ [10]
def head (o : Bs) : Bs := ([122, 111, 110, 101, 32] ++ o) ++ [10]
def text (z : Zone) : Bs := head z.origin ++ z.recs.flatMap line
def print (z : Zone) : Bs × Int := if checkZ z ≠ 0 then ([], checkZ z) else (text z, 0)
theorem trim_len (s : Bs) (c : UInt8) : (Lib.trimRightB s c).length ≤ s.length := by
  unfold Lib.trimRightB
  rw [List.length_reverse]
  refine Nat.le_trans (List.Sublist.length_le (List.dropWhile_sublist _)) ?_
  rw [List.length_reverse]; exact Nat.le_refl _
theorem kind_len (k : Nat) : (kindB.getD k []).length ≤ 5 := by
  rcases k with _ | _ | _ | _ | _ | _ | k <;> simp [kindB]
theorem long_len {o : Bs} {r : Rec} (h : Rn.RecOk o r) : (long r).length ≤ r.data.length + 109 := by
  have h1 := (Rn.under_iff.1 h.in_).1.len
  have h2 := Lib.itoa_length_le r.ttl (by have := h.ttl; omega) (by have := h.ttl; omega)
  have h3 := kind_len r.kind.toNat
  unfold long
  simp only [List.length_append, List.length_cons, List.length_nil]
  omega
theorem line_len {o : Bs} {r : Rec} (h : Rn.RecOk o r) : (line r).length ≤ r.data.length + 110 := by
  have h1 := long_len h
  have h2 := trim_len (long r) 32
  unfold line
  simp only [List.length_append, List.length_cons, List.length_nil]
  omega
theorem lines_len {o : Bs} : ∀ {l : List Rec}, (∀ r ∈ l, Rn.RecOk o r) → (∀ r ∈ l, r.data.length ≤ 1048576) → (l.flatMap line).length ≤ 1048686 * l.length
  | [], _, _ => by simp
  | r :: l, h, hd => by
    have h1 := line_len (h r (by simp))
    have h2 := hd r (by simp)
    have h3 := lines_len (l := l) (fun x hx => h x (by simp [hx])) (fun x hx => hd x (by simp [hx]))
    rw [List.flatMap_cons, List.length_append, List.length_cons]
    omega
theorem line_next {l : List Rec} {k : Nat} {x : Rec} (h : l[k]? = some x) : (l.take (k + 1)).flatMap line = (l.take k).flatMap line ++ line x := by
  rw [List.take_add_one, h, List.flatMap_append]; simp
end Go.Proofs.YtajllcbjgndcpaaGreatDoor.Pn
