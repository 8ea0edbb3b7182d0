/- PLAIN MODEL AND LAW (no program in sight): resolving in a tree of zones. -/
import Derived.Test.YtajllcbjgndcpaaGreatDoorRnLaws
namespace Go.Proofs.YtajllcbjgndcpaaGreatDoor.Vn
open Lb Zn Rn

def sameO (o : Bs) (z : Zone) : Bool := decide (z.origin = o)
def firstZ : List Zone → Int
  | [] => 0
  | z :: l => if checkZ z ≠ 0 then checkZ z else firstZ l
/-- Does an origin stand ahead of a zone, from place k on? -/
def dup (zs : List Zone) : Nat → List Zone → Bool
  | _, [] => false
  | k, z :: l => (zs.take k).any (sameO z.origin) || dup zs (k + 1) l
def checkV (zs : List Zone) : Int :=
  if zs.length = 0 then 4 else if zs.length > 12 then 2 else if firstZ zs ≠ 0 then firstZ zs
  else if (zs.headD default).origin ≠ [46] then 3 else if dup zs 0 zs = true then 6 else 0
def question (name : Bs) (kind : Int) : Int :=
  if check name ≠ 0 then check name else if star name = true then 3 else if kind < 1 ∨ kind > 5 then 1 else 0
/-- The zone of a delegation. -/
def cutOf (r : Reply) : Bs := (r.servers.headD default).name
abbrev Told := (Reply × Int) × List Bs
def askF (zs : List Zone) (name : Bs) (kind : Int) : Nat → Zone → Told
  | 0, _ => (({}, 0), [])
  | f + 1, z =>
    if (answer z name kind).2 ≠ 0 ∨ (answer z name kind).1.code ≠ 3 then (answer z name kind, [z.origin])
    else match zs.find? (sameO (cutOf (answer z name kind).1)) with
      | none => (({}, 4), [z.origin])
      | some y => ((askF zs name kind f y).1, z.origin :: (askF zs name kind f y).2)
def ask (zs : List Zone) (name : Bs) (kind : Int) : Told := askF zs name kind 100 (zs.headD default)

structure Res where
  code : Int := 0
  aliases : List Rec := []
  recs : List Rec := []
  asked : List Bs := []
  deriving DecidableEq, Inhabited
def Res.heard (a : Res) (l : List Bs) : Res := { a with asked := a.asked ++ l }
def Res.alias (a : Res) (x : Rec) : Res := { a with aliases := a.aliases ++ [x] }
def Res.done (a : Res) (r : Reply) : Res := { a with code := r.code, recs := r.recs }
/-- A name that was seen already, or the last hop. -/
def stop (seen : List Bs) (d : Bs) : Bool := decide (d ∈ seen ∨ seen.length = 8)
theorem stop_false {seen : List Bs} {d : Bs} (h : stop seen d = false) : d ∉ seen ∧ seen.length ≠ 8 := by
  unfold stop at h
  rw [decide_eq_false_iff_not] at h
  exact ⟨fun e => h (.inl e), fun e => h (.inr e)⟩
def followF {σ : Type} (one : Bs → σ → Told × σ) : Nat → Bs → List Bs → Res → σ → (Res × Int) × σ
  | 0, _, _, a, s => ((a, 0), s)
  | f + 1, name, seen, a, s =>
    if (one name s).1.1.2 ≠ 0 then ((a.heard (one name s).1.2, (one name s).1.1.2), (one name s).2)
    else if (one name s).1.1.1.code ≠ 2 then (((a.heard (one name s).1.2).done (one name s).1.1.1, 0), (one name s).2)
    else
      let x := (one name s).1.1.1.recs.headD default
      bif stop seen x.data then (((a.heard (one name s).1.2).alias x, 12), (one name s).2)
      else followF one f x.data (seen ++ [x.data]) ((a.heard (one name s).1.2).alias x) (one name s).2
def plainOne (zs : List Zone) (kind : Int) (n : Bs) (s : Unit) : Told × Unit := (ask zs n kind, s)
def fault (e : Int) (r : Res) : Res × Int := if e ≠ 0 then ({}, e) else (r, 0)
def resolve (zs : List Zone) (name : Bs) (kind : Int) : Res × Int :=
  if checkV zs ≠ 0 then ({}, checkV zs) else if question name kind ≠ 0 then ({}, question name kind)
  else fault (followF (plainOne zs kind) 9 name [name] {} ()).1.2 (followF (plainOne zs kind) 9 name [name] {} ()).1.1

/-! What a fit tree is. -/
theorem firstZ_ok : ∀ {l : List Zone}, firstZ l = 0 → ∀ z ∈ l, checkZ z = 0
  | [], _, z, hz => by cases hz
  | z :: l, h, y, hy => by
    unfold firstZ at h
    split at h
    · rename_i h1; exact absurd h h1
    · rename_i h1
      rcases List.mem_cons.1 hy with rfl | hy
      · simpa using h1
      · exact firstZ_ok h y hy
structure Tree (zs : List Zone) : Prop where
  some : zs ≠ []
  few : zs.length ≤ 12
  fit : ∀ z ∈ zs, checkZ z = 0
  root : (zs.headD default).origin = [46]
theorem checkV_ok {zs : List Zone} (h : checkV zs = 0) : Tree zs := by
  unfold checkV at h
  split at h
  · cases h
  · rename_i h1
    split at h
    · cases h
    · rename_i h2
      split at h
      · rename_i h3; exact absurd h h3
      · rename_i h3
        split at h
        · cases h
        · rename_i h4
          exact ⟨fun e => h1 (by rw [e]; rfl), by omega, firstZ_ok (by simpa using h3), by simpa using h4⟩
theorem Tree.head {zs : List Zone} (h : Tree zs) : zs.headD default ∈ zs := by
  obtain ⟨z, l, rfl⟩ := List.exists_cons_of_ne_nil h.some
  simp
theorem answer_split (z : Zone) (name : Bs) (kind : Int) : (answer z name kind).2 ≠ 0 ∧ (answer z name kind).1 = {} ∨ (answer z name kind) = (body z name kind, 0) ∧ chk z name kind = 0 := by
  unfold answer
  by_cases h : chk z name kind = 0
  · rw [if_neg (by simp [h])]; exact .inr ⟨rfl, h⟩
  · rw [if_pos h]; exact .inl ⟨h, rfl⟩
/-- The zone that a referral leads to lies strictly below. -/
theorem refer_below {z : Zone} {name : Bs} {kind : Int} (h2 : (answer z name kind).2 = 0) (h3 : (answer z name kind).1.code = 3) :
    Zn.under (cutOf (answer z name kind).1) z.origin = true ∧ cutOf (answer z name kind).1 ≠ z.origin ∧ Zn.under name (cutOf (answer z name kind).1) = true := by
  rcases answer_split z name kind with ⟨h, -⟩ | ⟨h, hc⟩
  · exact absurd h2 h
  · rw [h] at h3 ⊢
    dsimp only at h3 ⊢
    obtain ⟨c, x, l, hb, hs, hx, -⟩ := refer_law hc h3
    obtain ⟨c', hc', hb'⟩ := refer_code h3
    have e : cutOf (body z name kind) = c := by
      unfold cutOf
      rw [hb, hs]; exact hx
    have k := chk_ok hc
    have hcc : c' = c := by
      have h5 := refer_servers hc'
      obtain ⟨y, m, hy⟩ := List.exists_cons_of_ne_nil h5
      have h6 := (recsOf_mem (l := z.recs) (name := c') (kind := 3) (as := c') (x := y) (by show y ∈ (refer z c').servers; rw [hy]; simp)).1
      have h7 : (refer z c').servers = x :: l := by rw [← hb', hb, hs]
      rw [hy] at h7
      injection h7 with h7
      rw [← h6, h7, hx]
    subst hcc
    rw [e]
    have hi := cutF_some hc'
    obtain ⟨r, hr, hd, rfl⟩ := hi.is
    exact ⟨(k.zone.each hr).in_, hd.2.2, hd.1⟩
theorem name_len {n : Bs} (h : Fit n) : 1 ≤ n.length ∧ n.length ≤ 80 := by
  refine ⟨?_, h.len⟩
  cases n with
  | nil => have := h.back; simp [split, join] at this
  | cons c n => simp
theorem refer_longer {z : Zone} {name : Bs} {kind : Int} (h2 : (answer z name kind).2 = 0) (h3 : (answer z name kind).1.code = 3) : z.origin.length < (cutOf (answer z name kind).1).length := by
  obtain ⟨h4, h5, -⟩ := refer_below h2 h3
  have := under_len h4
  rcases Nat.lt_or_ge z.origin.length (cutOf (answer z name kind).1).length with h | h
  · exact h
  · exact absurd (this.2 (by omega)).symm h5
theorem find_same {zs : List Zone} {o : Bs} {y : Zone} (h : zs.find? (sameO o) = some y) : y ∈ zs ∧ y.origin = o := by
  have := List.find?_some h
  exact ⟨List.mem_of_find?_eq_some h, by simpa [sameO] using this⟩

/-! ResolveTree. -/
/-- From a zone on: each below the one before. -/
inductive Down : Bs → List Bs → Prop
  | nil (o : Bs) : Down o []
  | cons {o p : Bs} {l : List Bs} : Zn.under p o = true → p ≠ o → Down p l → Down o (p :: l)
theorem askF_down {zs : List Zone} (ht : Tree zs) (name : Bs) (kind : Int) : ∀ (f : Nat) (z : Zone), z ∈ zs → 80 < f + z.origin.length →
    (∃ l, (askF zs name kind f z).2 = z.origin :: l ∧ Down z.origin l) ∧
    ((askF zs name kind f z).1.2 = 0 → ∃ y ∈ zs, (askF zs name kind f z).1 = answer y name kind ∧ chk y name kind = 0 ∧ (askF zs name kind f z).1.1.code ≠ 3)
  | 0, z, hz, hf => by
    have := (name_len (checkZ_ok (ht.fit z hz)).fit).2
    omega
  | f + 1, z, hz, hf => by
    unfold askF
    split
    · rename_i h
      refine ⟨⟨[], rfl, .nil _⟩, fun h0 => ⟨z, hz, rfl, ?_, ?_⟩⟩
      · rcases answer_split z name kind with ⟨h1, -⟩ | ⟨-, hc⟩
        · exact absurd h0 h1
        · exact hc
      · exact h.resolve_left (by simp; exact h0)
    · rename_i h
      have h2 : (answer z name kind).2 = 0 := by
        rcases Decidable.em ((answer z name kind).2 = 0) with e | e
        · exact e
        · exact absurd (.inl e) h
      have h3 : (answer z name kind).1.code = 3 := by
        rcases Decidable.em ((answer z name kind).1.code = 3) with e | e
        · exact e
        · exact absurd (.inr e) h
      have hlong := refer_longer h2 h3
      obtain ⟨h4, h5, -⟩ := refer_below h2 h3
      cases hy : zs.find? (sameO (cutOf (answer z name kind).1)) with
      | none => exact ⟨⟨[], rfl, .nil _⟩, fun h0 => by cases h0⟩
      | some y =>
        dsimp only
        obtain ⟨m1, m2⟩ := find_same hy
        obtain ⟨⟨l, e1, e2⟩, i2⟩ := askF_down ht name kind f y m1 (by rw [m2]; omega)
        refine ⟨⟨_, rfl, ?_⟩, i2⟩
        rw [e1]
        exact .cons (by rw [m2]; exact h4) (by rw [m2]; exact h5) e2
theorem ask_down {zs : List Zone} (ht : Tree zs) (name : Bs) (kind : Int) :
    (∃ l, (ask zs name kind).2 = [46] :: l ∧ Down [46] l) ∧
    ((ask zs name kind).1.2 = 0 → ∃ y ∈ zs, (ask zs name kind).1 = answer y name kind ∧ chk y name kind = 0 ∧ (ask zs name kind).1.1.code ≠ 3) := by
  have := askF_down ht name kind 100 (zs.headD default) ht.head (by omega)
  rw [ht.root] at this
  exact this
/-- What the law reads of the zones that were asked: as many roots, each other below the one before it. -/
def roots (l : List Bs) : Nat := (l.filter fun o => decide (o = [46])).length
def Steps : Bs → List Bs → Prop
  | _, [] => True
  | p, o :: l => (o = [46] ∨ Zn.under o p = true ∧ o ≠ p) ∧ Steps o l
theorem steps_append : ∀ (p : Bs) (l m : List Bs), Steps p l → (∀ q, Steps q m) → Steps p (l ++ m)
  | p, [], m, _, h => h p
  | p, o :: l, m, h1, h2 => ⟨h1.1, steps_append o l m h1.2 h2⟩
theorem down_steps : ∀ (p : Bs) (l : List Bs), Down p l → Steps p l
  | p, [], _ => trivial
  | p, o :: l, h => by
    cases h with
    | cons h1 h2 h3 => exact ⟨.inr ⟨h1, h2⟩, down_steps o l h3⟩
theorem down_roots : ∀ (p : Bs) (l : List Bs), Fit p → Down p l → roots l = 0
  | p, [], _, _ => rfl
  | p, o :: l, hp, h => by
    cases h with
    | cons h1 h2 h3 =>
      have hne : o ≠ [46] := by
        rintro rfl
        have := under_len h1
        have hl := (name_len hp).1
        simp at this
        have e : p.length = 1 := by omega
        exact h2 (this.2 e).symm
      have := down_roots o l (under_iff.1 h1).1 h3
      unfold roots at this ⊢
      rw [List.filter_cons_of_neg (by simp [hne])]
      exact this
theorem fit_root : Fit [46] := ⟨by decide, by decide, by decide, by decide⟩
theorem roots_append (l m : List Bs) : roots (l ++ m) = roots l + roots m := by unfold roots; rw [List.filter_append, List.length_append]
/-- Each question asks the root once and then downwards. -/
theorem follow_tree {zs : List Zone} (ht : Tree zs) (kind : Int) : ∀ (f : Nat) (name : Bs) (seen : List Bs) (a : Res), 8 < f + seen.length → seen.length ≤ 8 → (∀ q, Steps q a.asked) → roots a.asked = a.aliases.length → (a.asked = [] ∨ a.asked.head? = some [46]) →
    (followF (plainOne zs kind) f name seen a ()).1.2 = 0 → (∀ q, Steps q (followF (plainOne zs kind) f name seen a ()).1.1.asked) ∧ roots (followF (plainOne zs kind) f name seen a ()).1.1.asked = (followF (plainOne zs kind) f name seen a ()).1.1.aliases.length + 1 ∧ (followF (plainOne zs kind) f name seen a ()).1.1.asked.head? = some [46]
  | 0, name, seen, a, hf, h8, _, _, _, h0 => by omega
  | f + 1, name, seen, a, hf, h8, hs, hr, hh, h0 => by
    unfold followF at h0 ⊢
    obtain ⟨⟨l, e1, e2⟩, -⟩ := ask_down ht name kind
    have g1 : ∀ q, Steps q (a.asked ++ (ask zs name kind).2) := fun q => steps_append q _ _ (hs q) (fun q => by rw [e1]; exact ⟨.inl rfl, down_steps _ _ e2⟩)
    have g2 : roots (a.asked ++ (ask zs name kind).2) = a.aliases.length + 1 := by
      rw [roots_append, hr, e1]
      have := down_roots _ _ fit_root e2
      unfold roots at this ⊢
      rw [List.filter_cons_of_pos (by simp)]
      simp [this]
    have g3 : (a.asked ++ (ask zs name kind).2).head? = some [46] := by
      rcases hh with h | h
      · rw [h, e1]; rfl
      · cases hc : a.asked with
        | nil => rw [hc] at h; cases h
        | cons x m => rw [hc] at h; exact h
    have eo : (plainOne zs kind name ()) = (ask zs name kind, ()) := rfl
    rw [eo] at h0 ⊢
    dsimp only at h0 ⊢
    split at h0
    · rename_i h; exact absurd h0 h
    · rename_i h
      rw [if_neg h]
      split at h0
      · rename_i h5
        rw [if_pos h5]
        exact ⟨g1, g2, g3⟩
      · rename_i h5
        rw [if_neg h5]
        cases h6 : stop seen ((ask zs name kind).1.1.recs.headD default).data with
        | true => rw [h6, cond_true] at h0; cases h0
        | false =>
          rw [h6, cond_false] at h0
          rw [cond_false]
          have h7 := (stop_false h6).2
          refine follow_tree ht kind f _ _ _ (by simp; omega) (by simp; omega) g1 ?_ (.inr g3) h0
          show roots (a.asked ++ (ask zs name kind).2) = (a.aliases ++ [_]).length
          rw [g2]; simp
theorem resolve_tree (zs : List Zone) (name : Bs) (kind : Int) (h : (resolve zs name kind).2 = 0) :
    (∀ q, Steps q (resolve zs name kind).1.asked) ∧ roots (resolve zs name kind).1.asked = (resolve zs name kind).1.aliases.length + 1 ∧ (resolve zs name kind).1.asked.head? = some [46] := by
  unfold resolve fault at h ⊢
  split at h
  · rename_i h1; exact absurd h h1
  · rename_i h1
    rw [if_neg h1]
    split at h
    · rename_i h2; exact absurd h h2
    · rename_i h2
      rw [if_neg h2]
      split at h
      · rename_i h3; exact absurd h h3
      · rename_i h3
        rw [if_neg h3]
        exact follow_tree (checkV_ok (by simpa using h1)) kind 9 name [name] {} (by simp) (by simp) (fun _ => trivial) rfl (.inl rfl) (by simpa using h3)

/-! ResolveAlias. -/
/-- An answer that is an alias: its first record says a name. -/
theorem alias_rec {z : Zone} {name : Bs} {kind : Int} (hc : chk z name kind = 0) (h : (body z name kind).code = 2) :
    ∃ x l, (body z name kind).recs = x :: l ∧ x.kind = 2 ∧ 0 ≤ x.ttl ∧ check x.data = 0 ∧ star x.data = false := by
  have k := chk_ok hc
  have key : ∀ src, (owned z src name kind).code = 2 → ∃ x l, (owned z src name kind).recs = x :: l ∧ x.kind = 2 ∧ 0 ≤ x.ttl ∧ check x.data = 0 ∧ star x.data = false := by
    intro src h
    unfold owned at h ⊢
    split at h
    · cases h
    · rename_i h1
      rw [if_neg h1]
      split at h
      · rename_i h2
        rw [if_pos h2]
        obtain ⟨x, l, hx⟩ := List.exists_cons_of_ne_nil h2
        refine ⟨x, l, hx, ?_⟩
        have hm : x ∈ recsOf z.recs src 2 name := by rw [hx]; simp
        unfold recsOf at hm
        obtain ⟨r, hr, rfl⟩ := List.mem_map.1 hm
        obtain ⟨hr1, hr2⟩ := List.mem_filter.1 hr
        have hk : r.kind = 2 := (hit_true.1 hr2).2.resolve_left (by decide)
        have ho := k.zone.each hr1
        have hd := ho.data
        unfold dataOk at hd
        rw [if_neg (by omega), if_pos (.inl hk)] at hd
        simp only [Bool.and_eq_true, decide_eq_true_eq, Bool.not_eq_true'] at hd
        exact ⟨hk, ho.ttl.1, hd.1, hd.2⟩
      · cases h
  unfold body at h ⊢
  cases hcut : cutF z name with
  | some c => rw [hcut] at h; cases h
  | none =>
    rw [hcut] at h
    dsimp only at h ⊢
    split at h
    · rename_i h1
      rw [if_pos h1]
      exact key _ h
    · rename_i h1
      rw [if_neg h1]
      split at h
      · rename_i h2
        rw [if_pos h2]
        exact key _ h
      · cases h
theorem ask_alias {zs : List Zone} (ht : Tree zs) {name : Bs} {kind : Int} (h0 : (ask zs name kind).1.2 = 0) (h2 : (ask zs name kind).1.1.code = 2) :
    ∃ x l, (ask zs name kind).1.1.recs = x :: l ∧ x.kind = 2 ∧ 0 ≤ x.ttl ∧ check x.data = 0 ∧ star x.data = false := by
  obtain ⟨y, hy, e, hc, -⟩ := (ask_down ht name kind).2 h0
  rw [e] at h2 ⊢
  rcases answer_split y name kind with ⟨h1, -⟩ | ⟨h1, -⟩
  · unfold answer at h1
    rw [if_neg (by simp [hc])] at h1
    exact absurd rfl h1
  · rw [h1] at h2 ⊢
    exact alias_rec hc h2
/-- With fewer names seen, the same is found. -/
theorem follow_shift (zs : List Zone) (kind : Int) : ∀ (f g : Nat) (name : Bs) (seen seen' : List Bs) (a a' : Res), 8 < f + seen.length → seen.length ≤ 8 → 8 < g + seen'.length → seen'.length ≤ seen.length → (∀ n ∈ seen', n ∈ seen) →
    (followF (plainOne zs kind) f name seen a ()).1.2 = 0 →
    (followF (plainOne zs kind) g name seen' a' ()).1.2 = 0 ∧ (followF (plainOne zs kind) g name seen' a' ()).1.1.code = (followF (plainOne zs kind) f name seen a ()).1.1.code ∧
    (followF (plainOne zs kind) g name seen' a' ()).1.1.recs = (followF (plainOne zs kind) f name seen a ()).1.1.recs ∧
    ∃ t, (followF (plainOne zs kind) f name seen a ()).1.1.aliases = a.aliases ++ t ∧ (followF (plainOne zs kind) g name seen' a' ()).1.1.aliases = a'.aliases ++ t
  | 0, g, name, seen, seen', a, a', hf, h8, _, _, _, _ => by omega
  | f + 1, 0, name, seen, seen', a, a', hf, h8, hg, hl, _, _ => by omega
  | f + 1, g + 1, name, seen, seen', a, a', hf, h8, hg, hl, hm, h0 => by
    unfold followF at h0 ⊢
    have eo : (plainOne zs kind name ()) = (ask zs name kind, ()) := rfl
    rw [eo] at h0 ⊢
    dsimp only at h0 ⊢
    split at h0
    · rename_i h; exact absurd h0 h
    · rename_i h
      rw [if_neg h, if_neg h]
      split at h0
      · rename_i h5
        rw [if_pos h5, if_pos h5]
        exact ⟨rfl, rfl, rfl, [], by simp [Res.done, Res.heard], by simp [Res.done, Res.heard]⟩
      · rename_i h5
        rw [if_neg h5, if_neg h5]
        cases h6 : stop seen ((ask zs name kind).1.1.recs.headD default).data with
        | true => rw [h6, cond_true] at h0; cases h0
        | false =>
          have h6' := stop_false h6
          have h7 : stop seen' ((ask zs name kind).1.1.recs.headD default).data = false := by
            unfold stop
            rw [decide_eq_false_iff_not]
            rintro (h | h)
            · exact h6'.1 (hm _ h)
            · have := h6'.2; omega
          rw [h6, cond_false] at h0
          rw [h7, cond_false, cond_false]
          have h8' := h6'.2
          obtain ⟨i1, i2, i3, t, i4, i5⟩ := follow_shift zs kind f g _ (seen ++ [((ask zs name kind).1.1.recs.headD default).data]) (seen' ++ [((ask zs name kind).1.1.recs.headD default).data]) ((a.heard (ask zs name kind).2).alias ((ask zs name kind).1.1.recs.headD default)) ((a'.heard (ask zs name kind).2).alias ((ask zs name kind).1.1.recs.headD default))
            (by simp; omega) (by simp; omega) (by simp; omega) (by simp; omega) (fun n hn => by
              rcases List.mem_append.1 hn with hn | hn
              · exact List.mem_append.2 (.inl (hm n hn))
              · exact List.mem_append.2 (.inr hn)) h0
          refine ⟨i1, i2, i3, ((ask zs name kind).1.1.recs.headD default) :: t, ?_, ?_⟩
          · rw [i4]; simp [Res.alias, Res.heard]
          · rw [i5]; simp [Res.alias, Res.heard]
theorem resolve_alias (zs : List Zone) (name : Bs) (kind : Int) (h : (resolve zs name kind).2 = 0) (x : Rec) (l : List Rec) (ha : (resolve zs name kind).1.aliases = x :: l) :
    (resolve zs x.data kind).2 = 0 ∧ (resolve zs x.data kind).1.code = (resolve zs name kind).1.code ∧ (resolve zs x.data kind).1.recs = (resolve zs name kind).1.recs ∧ (resolve zs x.data kind).1.aliases = l := by
  unfold resolve fault at h ha ⊢
  split at h
  · rename_i h1; exact absurd h h1
  · rename_i h1
    rw [if_neg h1] at ha ⊢
    rw [if_neg h1]
    split at h
    · rename_i h2; exact absurd h h2
    · rename_i h2
      rw [if_neg h2] at ha ⊢
      split at h
      · rename_i h3; exact absurd h h3
      · rename_i h3
        rw [if_neg h3] at ha ⊢
        have ht := checkV_ok (zs := zs) (by simpa using h1)
        have h0 : (followF (plainOne zs kind) 9 name [name] {} ()).1.2 = 0 := by simpa using h3
        clear h h3
        obtain ⟨G, hG⟩ : ∃ G, followF (plainOne zs kind) 9 x.data [x.data] {} () = G := ⟨_, rfl⟩
        rw [hG]
        dsimp only at ha ⊢
        unfold followF at h0 ha ⊢
        have eo : (plainOne zs kind name ()) = (ask zs name kind, ()) := rfl
        rw [eo] at h0 ha ⊢
        dsimp only at h0 ha ⊢
        split at h0
        · rename_i h; exact absurd h0 h
        · rename_i h
          have h' : (ask zs name kind).1.2 = 0 := by simpa using h
          rw [if_neg h] at ha ⊢
          split at h0
          · rename_i h5
            rw [if_pos h5] at ha
            cases ha
          · rename_i h5
            have h5' : (ask zs name kind).1.1.code = 2 := by simpa using h5
            rw [if_neg h5] at ha ⊢
            obtain ⟨y, m, e1, -, -, e2, e3⟩ := ask_alias ht h' h5'
            have ey : (ask zs name kind).1.1.recs.headD default = y := by rw [e1]; rfl
            rw [ey] at h0 ha ⊢
            cases h6 : stop [name] y.data with
            | true => rw [h6, cond_true] at h0; cases h0
            | false =>
              rw [h6, cond_false] at h0 ha
              rw [cond_false]
              obtain ⟨i1, i2, i3, t, i4, i5⟩ := follow_shift zs kind 8 9 y.data ([name] ++ [y.data]) [y.data] _ {} (by simp) (by simp) (by simp) (by simp) (by simp) h0
              rw [i4] at ha
              have hx : y = x ∧ t = l := by simpa [Res.alias, Res.heard] using ha
              obtain ⟨rfl, rfl⟩ := hx
              rw [hG] at i1 i2 i3 i5
              have hq : question y.data kind = 0 := by
                unfold question at h2 ⊢
                rw [if_neg (by simp [e2]), if_neg (by simp [e3])]
                split at h2
                · rename_i hh; exact absurd hh h2
                · split at h2
                  · exact absurd (by decide) h2
                  · simpa using h2
              rw [if_neg (by simp [hq]), if_neg (by simp [i1])]
              exact ⟨rfl, i2, i3, by rw [i5]; rfl⟩
end Go.Proofs.YtajllcbjgndcpaaGreatDoor.Vn
