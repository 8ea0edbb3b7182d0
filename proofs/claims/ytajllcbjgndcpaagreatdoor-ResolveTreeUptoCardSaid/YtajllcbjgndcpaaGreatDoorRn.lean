/- PLAIN MODEL (no program in sight): replies. -/
import Derived.Test.YtajllcbjgndcpaaGreatDoorZn
namespace Go.Proofs.YtajllcbjgndcpaaGreatDoor.Rn
open Lb Zn

structure Reply where
  code : Int := 0
  recs : List Rec := []
  servers : List Rec := []
  glue : List Rec := []
  neg : Int := 0
  deriving DecidableEq, Inhabited

def chk (z : Zone) (name : Bs) (kind : Int) : Int :=
  if checkZ z ≠ 0 then checkZ z else if check name ≠ 0 then check name else if star name = true then 3
  else if kind < 1 ∨ kind > 5 then 1 else if Zn.under name z.origin = false then 10 else 0
def hit (name : Bs) (kind : Int) (r : Rec) : Bool := decide (r.name = name) && (decide (kind = 0) || decide (r.kind = kind))
def named (as : Bs) (r : Rec) : Rec := { r with name := as }
def recsOf (l : List Rec) (name : Bs) (kind : Int) (as : Bs) : List Rec := (l.filter (hit name kind)).map (named as)
def has (l : List Rec) (name : Bs) : Bool := l.any fun r => Zn.under r.name name
def negOf : List Rec → Int
  | [] => 0
  | r :: l => if r.kind = 5 then min (num r.data 0).1 r.ttl else negOf l
def glueHit (cut : Bs) (r s : Rec) : Bool := Zn.under r.name cut && (decide (r.kind = 1) && decide (r.name = s.data))
def glueOf (l : List Rec) (cut : Bs) (sv : List Rec) : List Rec := l.flatMap fun r => (sv.filter (glueHit cut r)).map fun _ => r
def refer (z : Zone) (cut : Bs) : Reply := { code := 3, servers := recsOf z.recs cut 3 cut, glue := glueOf z.recs cut (recsOf z.recs cut 3 cut) }
def owned (z : Zone) (src name : Bs) (kind : Int) : Reply :=
  if recsOf z.recs src kind name ≠ [] then { code := 1, recs := recsOf z.recs src kind name }
  else if recsOf z.recs src 2 name ≠ [] then { code := 2, recs := recsOf z.recs src 2 name }
  else { code := 4, neg := negOf z.recs }
/-- The wildcard below the nearest name above that exists. -/
def wildL (l : List Rec) : List Bs → Bs
  | [] => []
  | _ :: r => if has l (join r) = true then 42 :: 46 :: (if r = [] then [] else join r) else wildL l r
def wild (z : Zone) (name : Bs) : Bs := wildL z.recs (split name)
def body (z : Zone) (name : Bs) (kind : Int) : Reply := match cutF z name with
  | some c => refer z c
  | none => if has z.recs name = true then owned z name name kind
    else if recsOf z.recs (wild z name) 0 (wild z name) ≠ [] then owned z (wild z name) name kind
    else { code := 5, neg := negOf z.recs }
def answer (z : Zone) (name : Bs) (kind : Int) : Reply × Int := if chk z name kind ≠ 0 then ({}, chk z name kind) else (body z name kind, 0)

/-! Names. -/
theorem under_iff {n o : Bs} : Zn.under n o = true ↔ Fit n ∧ Fit o ∧ split o <:+ split n := by
  unfold Zn.under Lb.under
  simp only [Bool.and_eq_true, decide_eq_true_eq, check_fit, List.isSuffixOf_iff_suffix, and_assoc]
theorem under_self {n : Bs} (h : Fit n) : Zn.under n n = true := under_iff.2 ⟨h, h, List.suffix_refl _⟩
theorem under_trans {a b c : Bs} (h1 : Zn.under a b = true) (h2 : Zn.under b c = true) : Zn.under a c = true := by
  rw [under_iff] at h1 h2 ⊢
  exact ⟨h1.1, h2.2.1, h2.2.2.trans h1.2.2⟩
theorem fit_len {n : Bs} (h : Fit n) : n.length = if split n = [] then 1 else ((split n).map fun x => x.length + 1).sum := by
  conv => lhs; rw [← h.back]
  split
  · rename_i e; rw [e]; rfl
  · rename_i e; exact flat_pos e
theorem fit_split {a b : Bs} (ha : Fit a) (hb : Fit b) (h : split a = split b) : a = b := by rw [← ha.back, ← hb.back, h]
theorem under_len {n o : Bs} (h : Zn.under n o = true) : o.length ≤ n.length ∧ (o.length = n.length → o = n) := by
  obtain ⟨hn, ho, t, ht⟩ := under_iff.1 h
  by_cases e : t = []
  · subst e
    have : o = n := fit_split ho hn (by simpa using ht)
    subst this
    exact ⟨Nat.le_refl _, fun _ => rfl⟩
  · have hl : ∀ x ∈ t, 1 ≤ x.length := fun x hx => (isLab_len (labsOk_all hn.labs x (by rw [← ht]; simp [hx]))).1
    have hne : split n ≠ [] := by rw [← ht]; simp [e]
    rw [fit_len hn, fit_len ho, if_neg hne]
    obtain ⟨y, t', rfl⟩ := List.exists_cons_of_ne_nil e
    have h1 := hl y (by simp)
    have hlt : (if split o = [] then 1 else ((split o).map fun x => x.length + 1).sum) < ((split n).map fun x => x.length + 1).sum := by
      rw [← ht]
      simp only [List.cons_append, List.map_cons, List.sum_cons, List.map_append, List.sum_append]
      split <;> omega
    exact ⟨by omega, fun e => by omega⟩
theorem under_both {n a b : Bs} (ha : Zn.under n a = true) (hb : Zn.under n b = true) (h : a.length ≤ b.length) : Zn.under b a = true := by
  obtain ⟨hn, fa, sa⟩ := under_iff.1 ha
  obtain ⟨-, fb, sb⟩ := under_iff.1 hb
  rcases List.suffix_or_suffix_of_suffix sa sb with s | s
  · exact under_iff.2 ⟨fb, fa, s⟩
  · have hba : Zn.under a b = true := under_iff.2 ⟨fa, fb, s⟩
    have := under_len hba
    obtain rfl := this.2 (by omega)
    exact under_self fa
theorem under_eq {n a b : Bs} (ha : Zn.under n a = true) (hb : Zn.under n b = true) (h : a.length = b.length) : a = b :=
  (under_len (under_both ha hb (by omega))).2 h
theorem under_up {n o : Bs} (hn : Fit n) (ho : Fit o) {x : Bs} {r : List Bs} (hs : split n = x :: r) (hne : n ≠ o) : Zn.under n o = Zn.under (join r) o := by
  obtain ⟨f1, -, h⟩ := above_law hn ho hs
  have h := h.resolve_left hne
  unfold Zn.under
  rw [check_fit.2 hn, check_fit.2 f1, h]

/-! What a fit zone is. -/
theorem scan_ok (o : Bs) : ∀ (l : List Rec) (p : Option Rec) (n : Nat), (scan o p n l).1 = 0 → (∀ r ∈ l, recE o r = 0) ∧ (scan o p n l).2 = n + (l.filter fun r => decide (r.kind = 5)).length
  | [], p, n, _ => ⟨by simp, by simp [scan]⟩
  | r :: l, p, n, h => by
    unfold scan at h ⊢
    by_cases h1 : recE o r = 0
    · rw [if_neg (by simp [h1])] at h ⊢
      by_cases h2 : behind r p = true
      · rw [if_pos h2] at h; cases h
      · rw [if_neg h2] at h ⊢
        obtain ⟨i1, i2⟩ := scan_ok o l _ _ h
        refine ⟨fun x hx => ?_, ?_⟩
        · rcases List.mem_cons.1 hx with rfl | hx
          · exact h1
          · exact i1 x hx
        · rw [i2]
          by_cases h3 : r.kind = 5
          · rw [if_pos h3, List.filter_cons_of_pos (by simp [h3])]; simp; omega
          · rw [if_neg h3, List.filter_cons_of_neg (by simp [h3])]
    · rw [if_pos h1] at h; exact absurd h h1
structure Ok (z : Zone) : Prop where
  fit : Fit z.origin
  star : star z.origin = false
  few : z.recs.length ≤ 60
  recs : ∀ r ∈ z.recs, recE z.origin r = 0
  start : (z.recs.filter fun r => decide (r.kind = 5)).length = 1
  agree : ∀ r ∈ z.recs, agrees z r = true
theorem checkZ_ok {z : Zone} (h : checkZ z = 0) : Ok z := by
  unfold checkZ at h
  split at h
  · rename_i h1; exact absurd h h1
  · rename_i h1
    split at h
    · cases h
    · rename_i h2
      split at h
      · cases h
      · rename_i h3
        split at h
        · rename_i h4; exact absurd h h4
        · rename_i h4
          split at h
          · cases h
          · rename_i h5
            split at h
            · cases h
            · rename_i h6
              obtain ⟨s1, s2⟩ := scan_ok z.origin z.recs none 0 (by simpa using h4)
              exact ⟨check_fit.1 (by simpa using h1), by simpa using h2, by omega, s1, by rw [s2] at h5; simpa using h5, by simpa using h6⟩
structure RecOk (o : Bs) (r : Rec) : Prop where
  in_ : Zn.under r.name o = true
  kind : 1 ≤ r.kind ∧ r.kind ≤ 5
  ttl : 0 ≤ r.ttl ∧ r.ttl ≤ 1000000
  data : dataOk r = true
theorem recE_ok {o : Bs} {r : Rec} (h : recE o r = 0) : RecOk o r := by
  unfold recE at h
  split at h
  · rename_i h1; exact absurd h h1
  · split at h
    · cases h
    · rename_i h2
      split at h
      · cases h
      · rename_i h3
        split at h
        · cases h
        · rename_i h4
          exact ⟨by simpa using h2, by omega, by omega, by simpa using h4⟩
theorem Ok.each {z : Zone} (h : Ok z) {r : Rec} (hr : r ∈ z.recs) : RecOk z.origin r := recE_ok (h.recs r hr)
theorem Ok.root {z : Zone} (h : Ok z) : has z.recs z.origin = true := by
  have := h.start
  cases hl : z.recs with
  | nil => rw [hl] at this; simp at this
  | cons r l =>
    have h1 := (h.each (r := r) (by rw [hl]; simp)).in_
    unfold has
    rw [List.any_cons, h1, Bool.true_or]

/-! Delegations. -/
def deleg (z : Zone) (name : Bs) (r : Rec) : Prop := Zn.under name r.name = true ∧ r.kind = 3 ∧ r.name ≠ z.origin
structure IsCut (z : Zone) (name c : Bs) : Prop where
  is : ∃ r ∈ z.recs, deleg z name r ∧ r.name = c
  least : ∀ r ∈ z.recs, deleg z name r → c.length ≤ r.name.length
theorem cut_fold (o name : Bs) : ∀ (l : List Rec) (acc : Option Bs),
    (l.foldl (cutStep o name) acc = none ↔ acc = none ∧ ∀ r ∈ l, ¬ (Zn.under name r.name = true ∧ r.kind = 3 ∧ r.name ≠ o)) ∧
    ∀ c, l.foldl (cutStep o name) acc = some c → (acc = some c ∨ ∃ r ∈ l, (Zn.under name r.name = true ∧ r.kind = 3 ∧ r.name ≠ o) ∧ r.name = c) ∧ (∀ a, acc = some a → c.length ≤ a.length) ∧ ∀ r ∈ l, (Zn.under name r.name = true ∧ r.kind = 3 ∧ r.name ≠ o) → c.length ≤ r.name.length
  | [], acc => by
    refine ⟨by simp, fun c hc => ?_⟩
    simp only [List.foldl_nil] at hc
    subst hc
    exact ⟨.inl rfl, fun a ha => by injection ha with ha; subst ha; exact Nat.le_refl _, by simp⟩
  | r :: l, acc => by
    obtain ⟨i1, i2⟩ := cut_fold o name l (cutStep o name acc r)
    rw [List.foldl_cons]
    unfold cutStep at i1 i2 ⊢
    by_cases hd : Zn.under name r.name = true ∧ r.kind = 3 ∧ r.name ≠ o
    · by_cases hs : shorter r.name acc = true
      · rw [if_pos ⟨hd.1, hd.2.1, hd.2.2, hs⟩] at i1 i2 ⊢
        refine ⟨?_, fun c hc => ?_⟩
        · rw [i1]
          constructor
          · rintro ⟨h, -⟩; cases h
          · rintro ⟨-, h⟩; exact absurd hd (h r (by simp))
        · obtain ⟨j1, j2, j3⟩ := i2 c hc
          have hcr := j2 _ rfl
          refine ⟨.inr ?_, fun a ha => ?_, fun x hx hdx => ?_⟩
          · rcases j1 with j1 | ⟨x, hx, j⟩
            · injection j1 with j1; exact ⟨r, by simp, hd, j1⟩
            · exact ⟨x, by simp [hx], j⟩
          · subst ha
            have : r.name.length < a.length := by simpa [shorter] using hs
            omega
          · rcases List.mem_cons.1 hx with rfl | hx
            · exact hcr
            · exact j3 x hx hdx
      · rw [if_neg (fun h => hs h.2.2.2)] at i1 i2 ⊢
        cases acc with
        | none => exact absurd rfl hs
        | some a =>
          have hal : a.length ≤ r.name.length := by simpa [shorter] using hs
          refine ⟨?_, fun c hc => ?_⟩
          · rw [i1]
            constructor
            · rintro ⟨h, -⟩; cases h
            · rintro ⟨h, -⟩; cases h
          · obtain ⟨j1, j2, j3⟩ := i2 c hc
            have hca := j2 _ rfl
            refine ⟨?_, j2, fun x hx hdx => ?_⟩
            · rcases j1 with j1 | ⟨x, hx, j⟩
              · exact .inl j1
              · exact .inr ⟨x, by simp [hx], j⟩
            · rcases List.mem_cons.1 hx with rfl | hx
              · omega
              · exact j3 x hx hdx
    · rw [if_neg (fun h => hd ⟨h.1, h.2.1, h.2.2.1⟩)] at i1 i2 ⊢
      refine ⟨?_, fun c hc => ?_⟩
      · rw [i1]
        constructor
        · rintro ⟨h1, h2⟩
          refine ⟨h1, fun x hx => ?_⟩
          rcases List.mem_cons.1 hx with rfl | hx
          · exact hd
          · exact h2 x hx
        · rintro ⟨h1, h2⟩; exact ⟨h1, fun x hx => h2 x (by simp [hx])⟩
      · obtain ⟨j1, j2, j3⟩ := i2 c hc
        refine ⟨?_, j2, fun x hx hdx => ?_⟩
        · rcases j1 with j1 | ⟨x, hx, j⟩
          · exact .inl j1
          · exact .inr ⟨x, by simp [hx], j⟩
        · rcases List.mem_cons.1 hx with rfl | hx
          · exact absurd hdx hd
          · exact j3 x hx hdx
theorem cutF_some {z : Zone} {name c : Bs} (h : cutF z name = some c) : IsCut z name c := by
  obtain ⟨j1, -, j3⟩ := (cut_fold z.origin name z.recs none).2 c h
  exact ⟨j1.resolve_left (by simp), j3⟩
theorem cutF_none {z : Zone} {name : Bs} : cutF z name = none ↔ ∀ r ∈ z.recs, ¬ deleg z name r := by
  have := (cut_fold z.origin name z.recs none).1
  unfold cutF deleg
  rw [this]; simp
theorem IsCut.under {z : Zone} {name c : Bs} (h : IsCut z name c) : Zn.under name c = true := by
  obtain ⟨r, -, h1, rfl⟩ := h.is; exact h1.1
theorem IsCut.unique {z : Zone} {name a b : Bs} (ha : IsCut z name a) (hb : IsCut z name b) : a = b := by
  obtain ⟨r, hr, dr, rfl⟩ := ha.is
  obtain ⟨s, hs, ds, rfl⟩ := hb.is
  have h1 := ha.least s hs ds
  have h2 := hb.least r hr dr
  exact under_eq dr.1 ds.1 (by omega)
theorem IsCut.cutF {z : Zone} {name c : Bs} (h : IsCut z name c) : cutF z name = some c := by
  cases hc : Zn.cutF z name with
  | none =>
    obtain ⟨r, hr, dr, -⟩ := h.is
    exact absurd dr (cutF_none.1 hc r hr)
  | some d => rw [h.unique (cutF_some hc)]

/-- ZoneCutTop's law: at a name without labels. -/
theorem cutTop_root {z : Zone} (hz : Ok z) {name : Bs} (hn : Fit name) (hs : split name = []) : cutF z name = none := by
  rw [cutF_none]
  rintro r hr ⟨h1, -, h3⟩
  obtain ⟨-, fr, s1⟩ := under_iff.1 h1
  obtain ⟨-, fo, s2⟩ := under_iff.1 (hz.each hr).in_
  rw [hs] at s1
  have e1 : split r.name = [] := List.suffix_nil.1 s1
  rw [e1] at s2
  have e2 : split z.origin = [] := List.suffix_nil.1 s2
  exact h3 (fit_split fr fo (e1.trans e2.symm))
theorem deleg_up {z : Zone} (hz : Ok z) {name : Bs} (hn : Fit name) {x : Bs} {l : List Bs} (hs : split name = x :: l) {r : Rec} (hr : r ∈ z.recs) (hne : name ≠ r.name) : deleg z name r ↔ deleg z (join l) r := by
  unfold deleg
  rw [under_up hn (under_iff.1 (hz.each hr).in_).1 hs hne]
theorem up_len {name : Bs} (hn : Fit name) {x : Bs} {l : List Bs} (hs : split name = x :: l) : (join l).length < name.length := by
  have h1 := (above_law hn hn hs).1
  have h2 := (above_law hn hn hs).2.1
  have hu : Zn.under name (join l) = true := by unfold Zn.under; rw [check_fit.2 hn, check_fit.2 h1, h2]; rfl
  have h3 := under_len hu
  rcases Nat.lt_or_ge (join l).length name.length with h | h
  · exact h
  · have e := h3.2 (by omega)
    have h4 := split_join (r := l) (labsOk_tail (x := x) (by rw [← hs]; exact hn.labs))
    rw [e, hs] at h4
    exact absurd (congrArg List.length h4) (by simp)
theorem under_parent {name : Bs} (hn : Fit name) {x : Bs} {l : List Bs} (hs : split name = x :: l) : Zn.under name (join l) = true := by
  have h1 := (above_law hn hn hs).1
  have h2 := (above_law hn hn hs).2.1
  unfold Zn.under; rw [check_fit.2 hn, check_fit.2 h1, h2]; rfl
theorem cutTop_was {z : Zone} (hz : Ok z) {name : Bs} (hn : Fit name) {x : Bs} {l : List Bs} (hs : split name = x :: l) {t : Bs} (ht : cutF z (join l) = some t) : cutF z name = some t := by
  have h := cutF_some ht
  refine IsCut.cutF ⟨?_, fun r hr hd => ?_⟩
  · obtain ⟨r, hr, hd, rfl⟩ := h.is
    exact ⟨r, hr, ⟨under_trans (under_parent hn hs) hd.1, hd.2⟩, rfl⟩
  · by_cases e : name = r.name
    · rw [← e]
      have h1 := (under_len h.under).1
      have h2 := up_len hn hs
      omega
    · exact h.least r hr ((deleg_up hz hn hs hr e).1 hd)
theorem cutTop_is {z : Zone} (hz : Ok z) {name : Bs} (hn : Fit name) {x : Bs} {l : List Bs} (hs : split name = x :: l) (ht : cutF z (join l) = none) {c : Bs} (hc : cutF z name = some c) : c = name := by
  obtain ⟨r, hr, hd, rfl⟩ := (cutF_some hc).is
  by_cases e : name = r.name
  · exact e.symm
  · exact absurd ((deleg_up hz hn hs hr e).1 hd) (cutF_none.1 ht r hr)
end Go.Proofs.YtajllcbjgndcpaaGreatDoor.Rn
