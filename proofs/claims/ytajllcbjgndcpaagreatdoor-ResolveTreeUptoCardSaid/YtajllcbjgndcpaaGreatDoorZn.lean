/- PLAIN MODEL (no program in sight): zones. -/
import Derived.Test.YtajllcbjgndcpaaGreatDoorCb
import Derived.Lib.AtoiAll
import Derived.Lib.ItoaNum
namespace Go.Proofs.YtajllcbjgndcpaaGreatDoor.Zn
open Lb
abbrev Rec := Cb.Rec
structure Zone where
  origin : Bs
  recs : List Rec
  deriving DecidableEq, Inhabited

/-- A name is another one or below it; false where one is no name. -/
def under (n o : Bs) : Bool := decide (check n = 0) && decide (check o = 0) && Lb.under n o

/-! Addresses. -/
def dig (c : UInt8) : Bool := decide (48 ≤ c) && decide (c ≤ 57)
def val (w : Bs) : Nat := w.foldl (fun n c => 10 * n + (c.toNat - 48)) 0
def numA (w : Bs) : Option Nat := if w = [] ∨ 3 < w.length ∨ (1 < w.length ∧ w.head? = some 48) then none else if w.all dig = true then some (val w) else none
/-- The parts one after the other: what has been read, and whether one was too large. -/
def partsA : Nat → Bool → List Bs → Option (Nat × Bool)
  | out, large, [] => some (out, large)
  | out, large, w :: r => match numA w with
    | none => none
    | some n => partsA ((out * 256) % 4294967296 + n % 256) (large || decide (255 < n)) r
def parseA (s : Bs) : Nat × Int :=
  if (cut s).length ≠ 4 then (0, 11) else match partsA 0 false (cut s) with
    | none => (0, 11)
    | some (_, true) => (0, 10)
    | some (a, false) => (a, 0)
def dec (n : Nat) : Bs := Lib.itoa (n : Int)
def printA (a : Nat) : Bs := dec (a / 16777216 % 256) ++ 46 :: (dec (a / 65536 % 256) ++ 46 :: (dec (a / 256 % 256) ++ 46 :: dec (a % 256)))
def addrOk (s : Bs) : Bool := decide ((parseA s).2 = 0) && decide (printA (parseA s).1 = s)

/-! Records. -/
/-- No numeral at all. -/
def isSyn : Lib.NumEnd Int → Bool
  | .ok _ => false
  | .range => false
  | _ => true
/-- What a numeral says, and whether it is one without leading zeros, at most 'most'. -/
def num (s : Bs) (most : Int) : Int × Bool := match Lib.atoiAll s with
  | .ok n => (n, decide (0 ≤ n) && decide (n ≤ most) && decide (Lib.itoa n = s))
  | .range => (Lib.atoiSat s, false)
  | _ => (0, false)
def star (s : Bs) : Bool := s.head? == some 42
def seen (c : UInt8) : Bool := decide (33 ≤ c) && decide (c ≤ 126)
def dataOk (r : Rec) : Bool :=
  if r.kind = 1 then addrOk r.data
  else if r.kind = 2 ∨ r.kind = 3 then decide (check r.data = 0) && !star r.data
  else if r.kind = 4 then decide (r.data.length ≤ 40) && r.data.all seen
  else (num r.data 1000000).2
def cmpI (x y : Int) : Int := if x < y then -1 else if y < x then 1 else 0
def or3 (a b c : Int) : Int := if a ≠ 0 then a else if b ≠ 0 then b else c
def cmpN (a b : Bs) : Int := if check a = 0 ∧ check b = 0 then Lb.compare a b else 0
def ord (a b : Rec) : Int := or3 (cmpN a.name b.name) (cmpI a.kind b.kind) (cmpS a.data b.data)
def recE (o : Bs) (r : Rec) : Int :=
  if check r.name ≠ 0 then check r.name else if under r.name o = false then 10
  else if r.kind < 1 ∨ r.kind > 5 ∨ r.ttl < 0 ∨ r.ttl > 1000000 then 1 else if dataOk r = false then 3 else 0

/-! Zones. -/
def shorter (n : Bs) : Option Bs → Bool
  | none => true
  | some f => decide (n.length < f.length)
def cutStep (o name : Bs) (acc : Option Bs) (r : Rec) : Option Bs :=
  if under name r.name = true ∧ r.kind = 3 ∧ r.name ≠ o ∧ shorter r.name acc = true then some r.name else acc
def cutF (z : Zone) (name : Bs) : Option Bs := z.recs.foldl (cutStep z.origin name) none
def aliases (l : List Rec) (name : Bs) : Nat := (l.filter fun x => decide (x.name = name ∧ x.kind = 2)).length
def others (l : List Rec) (name : Bs) : Nat := (l.filter fun x => decide (x.name = name ∧ x.kind ≠ 2)).length
def agrees (z : Zone) (r : Rec) : Bool :=
  if aliases z.recs r.name > 1 ∨ aliases z.recs r.name = 1 ∧ others z.recs r.name > 0 then false
  else if r.kind = 5 ∧ r.name ≠ z.origin then false
  else match cutF z r.name with
    | some c => if c = r.name then decide (r.kind = 3 ∨ r.kind = 1) else decide (r.kind = 1)
    | none => true
def behind (r : Rec) : Option Rec → Bool
  | none => false
  | some q => decide (0 ≤ ord q r)
/-- The records one after the other: the first fault, and how many starts there are. -/
def scan (o : Bs) : Option Rec → Nat → List Rec → Int × Nat
  | _, n, [] => (0, n)
  | p, n, r :: l => if recE o r ≠ 0 then (recE o r, n) else
    if behind r p = true then (6, n) else scan o (some r) (if r.kind = 5 then n + 1 else n) l
def checkZ (z : Zone) : Int :=
  if check z.origin ≠ 0 then check z.origin else if star z.origin = true then 3 else if z.recs.length > 60 then 2
  else if (scan z.origin none 0 z.recs).1 ≠ 0 then (scan z.origin none 0 z.recs).1
  else if (scan z.origin none 0 z.recs).2 ≠ 1 then 4 else if z.recs.all (agrees z) = false then 7 else 0
end Go.Proofs.YtajllcbjgndcpaaGreatDoor.Zn
