/- PLAIN LAW (no program in sight): a cache of answers. -/
import Derived.Test.YtajllcbjgndcpaaGreatDoorLb
namespace Go.Proofs.YtajllcbjgndcpaaGreatDoor.Cb
open Lb

structure Rec where
  name : Bs
  kind : Int
  ttl : Int
  data : Bs
  deriving DecidableEq, Inhabited
/-- What an entry holds. -/
structure Ent where
  name : Bs
  kind : Int
  code : Int
  recs : List Rec
  neg : Int
  at_ : Int
  til : Int
  deriving DecidableEq, Inhabited
structure Cac where
  room : Int
  now : Int
  es : List Ent
/-- An answer that is handed in: its two other lists by their lengths. -/
structure Rp where
  code : Int
  recs : List Rec
  ns : Nat
  ng : Nat
  neg : Int

def live (now : Int) (es : List Ent) : List Ent := es.filter fun x => !decide (x.til ≤ now)
def isQ (name : Bs) (kind : Int) (x : Ent) : Bool := decide (x.name = name ∧ x.kind = kind)
def chk (c : Cac) (name : Bs) (kind now : Int) : Int :=
  if Lb.check name ≠ 0 then Lb.check name else if kind < 1 ∨ kind > 5 then 1 else if now < 0 ∨ now > 1000000000 then 10 else if now < c.now then 13 else 0
def least (n : Int) (l : List Rec) : Int := l.foldl (fun n x => min n x.ttl) n
def life (r : Rp) : Int := if r.code = 4 ∨ r.code = 5 then r.neg else least 1000000 r.recs
def badT (x : Rec) : Bool := decide (x.ttl < 0) || decide (x.ttl > 1000000)
/-- The form of an answer is not that of its code. -/
def illForm (r : Rp) : Prop := (decide (r.code = 1 ∨ r.code = 2) ≠ decide (0 < r.recs.length)) ∨ r.recs.length > 60 ∨ r.ns > 0 ∨ r.ng > 0
instance (r : Rp) : Decidable (illForm r) := by unfold illForm; infer_instance
/-- The entries with one more, where the room is so. -/
def roomFor (room : Int) (es : List Ent) : List Ent := if (es.length : Int) = room then es.drop 1 else es
def lay (room : Int) (es : List Ent) (x : Ent) : List Ent := roomFor room es ++ [x]
def kindOf (r : Rp) (kind : Int) : Int := if r.code = 5 then 0 else kind
def putE (c : Cac) (name : Bs) (kind : Int) (r : Rp) (now : Int) : List Ent :=
  let es := (live now c.es).filter fun x => !isQ name (kindOf r kind) x
  if life r = 0 then es else lay c.room es ⟨name, kindOf r kind, r.code, r.recs, r.neg, now, now + life r⟩
/-- What Put answers, where nothing is stored. -/
def putErr (c : Cac) (name : Bs) (kind : Int) (r : Rp) (now : Int) : Int :=
  if chk c name kind now ≠ 0 then chk c name kind now
  else if r.code < 1 ∨ r.code > 5 ∨ r.code = 3 then 1
  else if illForm r then 3
  else if life r < 0 ∨ life r > 1000000 ∨ r.recs.any badT = true then 1
  else 0
def put (c : Cac) (name : Bs) (kind : Int) (r : Rp) (now : Int) : Cac :=
  if putErr c name kind r now ≠ 0 then c else ⟨c.room, now, putE c name kind r now⟩

def older (d : Int) (x : Rec) : Rec := { x with ttl := x.ttl - d }
/-- Where the entry lies that answers a question: the first for every kind, else the first for the kind. -/
def spot (es : List Ent) (name : Bs) (kind : Int) : Option Nat :=
  match es.findIdx? (isQ name 0) with
  | some k => some k
  | none => es.findIdx? (isQ name kind)
/-- An entry's answer at a time. -/
def answer (x : Ent) (now : Int) : Rp := ⟨x.code, x.recs.map (older (now - x.at_)), 0, 0, if x.recs = [] then x.neg - (now - x.at_) else x.neg⟩
def getE (es : List Ent) (k : Nat) : List Ent := es.eraseIdx k ++ (es[k]?).toList
def get (c : Cac) (name : Bs) (kind now : Int) : Cac :=
  if chk c name kind now ≠ 0 then c else
  match spot (live now c.es) name kind with
  | none => ⟨c.room, now, live now c.es⟩
  | some k => ⟨c.room, now, getE (live now c.es) k⟩
def got (c : Cac) (name : Bs) (kind now : Int) : Option Rp :=
  if chk c name kind now ≠ 0 then none else
  match spot (live now c.es) name kind with
  | none => none
  | some k => ((live now c.es)[k]?).map (answer · now)
end Go.Proofs.YtajllcbjgndcpaaGreatDoor.Cb
