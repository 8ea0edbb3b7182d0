/- PLAIN LAW (no program in sight): replies: whose records an answer bears, the referral below a delegation, names that do not exist. -/
import Derived.Test.YtajllcbjgndcpaaGreatDoorRn
namespace Go.Proofs.YtajllcbjgndcpaaGreatDoor.Rn
open Lb Zn

theorem hit_true {name : Bs} {kind : Int} {r : Rec} : hit name kind r = true ↔ r.name = name ∧ (kind = 0 ∨ r.kind = kind) := by
  unfold hit; simp
theorem recsOf_mem {l : List Rec} {name as : Bs} {kind : Int} {x : Rec} (h : x ∈ recsOf l name kind as) : x.name = as ∧ (kind = 0 ∨ x.kind = kind) := by
  unfold recsOf at h
  obtain ⟨r, hr, rfl⟩ := List.mem_map.1 h
  exact ⟨rfl, (hit_true.1 (List.mem_filter.1 hr).2).2⟩
theorem recsOf_ne {l : List Rec} {name as : Bs} {kind : Int} {r : Rec} (hr : r ∈ l) (h : hit name kind r = true) : recsOf l name kind as ≠ [] := by
  unfold recsOf
  intro e
  rw [List.map_eq_nil_iff] at e
  have : r ∈ l.filter (hit name kind) := List.mem_filter.2 ⟨hr, h⟩
  rw [e] at this
  cases this
structure Chk (z : Zone) (name : Bs) (kind : Int) : Prop where
  zone : Ok z
  fit : Fit name
  star : star name = false
  kind : 1 ≤ kind ∧ kind ≤ 5
  in_ : Zn.under name z.origin = true
theorem chk_ok {z : Zone} {name : Bs} {kind : Int} (h : chk z name kind = 0) : Chk z name kind := by
  unfold chk at h
  split at h
  · rename_i h1; exact absurd h h1
  · rename_i h1
    split at h
    · rename_i h2; exact absurd h h2
    · rename_i h2
      split at h
      · cases h
      · rename_i h3
        split at h
        · cases h
        · rename_i h4
          split at h
          · cases h
          · rename_i h5
            exact ⟨checkZ_ok (by simpa using h1), check_fit.1 (by simpa using h2), by simpa using h3, by omega, by simpa using h5⟩
theorem chk_zero {z : Zone} {name : Bs} {kind : Int} (hz : checkZ z = 0) (hf : Fit name) (hs : star name = false) (hk : 1 ≤ kind ∧ kind ≤ 5) (hu : Zn.under name z.origin = true) : chk z name kind = 0 := by
  unfold chk
  rw [if_neg (by simp [hz]), if_neg (by simp [check_fit.2 hf]), if_neg (by simp [hs]), if_neg (by omega), if_neg (by simp [hu])]
theorem chk_zone {z : Zone} {name : Bs} {kind : Int} (h : chk z name kind = 0) : checkZ z = 0 := by
  unfold chk at h
  split at h
  · rename_i h1; exact absurd h h1
  · rename_i h1; simpa using h1

/-! ReplyOwn. -/
theorem owned_code (z : Zone) (src name : Bs) (kind : Int) : (owned z src name kind).code = 1 ∨ (owned z src name kind).code = 2 ∨ (owned z src name kind).code = 4 := by
  unfold owned; split
  · exact .inl rfl
  · split
    · exact .inr (.inl rfl)
    · exact .inr (.inr rfl)
theorem owned_recs (z : Zone) (src name : Bs) (kind : Int) (hk : kind ≠ 0) : ∀ x ∈ (owned z src name kind).recs, x.name = name ∧ (x.kind = kind ∨ (owned z src name kind).code = 2 ∧ x.kind = 2) := by
  unfold owned; split
  · intro x hx
    obtain ⟨h1, h2⟩ := recsOf_mem hx
    exact ⟨h1, .inl (h2.resolve_left hk)⟩
  · split
    · intro x hx
      obtain ⟨h1, h2⟩ := recsOf_mem hx
      exact ⟨h1, .inr ⟨rfl, h2.resolve_left (by decide)⟩⟩
    · intro x hx; cases hx
theorem owned_some (z : Zone) (src name : Bs) (kind : Int) : (owned z src name kind).recs ≠ [] ↔ (owned z src name kind).code = 1 ∨ (owned z src name kind).code = 2 := by
  unfold owned; split
  · rename_i h; exact ⟨fun _ => .inl rfl, fun _ => h⟩
  · split
    · rename_i h; exact ⟨fun _ => .inr rfl, fun _ => h⟩
    · exact ⟨fun h => absurd rfl h, fun h => by rcases h with h | h <;> cases h⟩
theorem owned_servers (z : Zone) (src name : Bs) (kind : Int) : (owned z src name kind).servers = [] := by
  unfold owned; split
  · rfl
  · split <;> rfl
theorem refer_servers {z : Zone} {name c : Bs} (h : cutF z name = some c) : (refer z c).servers ≠ [] := by
  obtain ⟨r, hr, hd, rfl⟩ := (cutF_some h).is
  exact recsOf_ne hr (hit_true.2 ⟨rfl, .inr hd.2.1⟩)
theorem own_law (z : Zone) (name : Bs) (kind : Int) (hk : kind ≠ 0) :
    (∀ x ∈ (body z name kind).recs, x.name = name ∧ (x.kind = kind ∨ (body z name kind).code = 2 ∧ x.kind = 2)) ∧
    ((body z name kind).recs ≠ [] ↔ (body z name kind).code = 1 ∨ (body z name kind).code = 2) ∧
    ((body z name kind).servers ≠ [] ↔ (body z name kind).code = 3) := by
  have own : ∀ src, (owned z src name kind).servers ≠ [] ↔ (owned z src name kind).code = 3 := fun src => by
    rw [owned_servers]
    refine ⟨fun h => absurd rfl h, fun h => ?_⟩
    rcases owned_code z src name kind with e | e | e <;> rw [e] at h <;> cases h
  unfold body
  cases hc : cutF z name with
  | some c =>
    refine ⟨fun x hx => (by cases hx), ⟨fun h => absurd rfl h, fun h => by rcases h with h | h <;> cases h⟩, ⟨fun _ => rfl, fun _ => refer_servers hc⟩⟩
  | none =>
    dsimp only
    split
    · exact ⟨owned_recs z _ _ _ hk, owned_some z _ _ _, own _⟩
    · split
      · exact ⟨owned_recs z _ _ _ hk, owned_some z _ _ _, own _⟩
      · exact ⟨fun x hx => (by cases hx), ⟨fun h => absurd rfl h, fun h => by rcases h with h | h <;> cases h⟩, ⟨fun h => absurd rfl h, fun h => by cases h⟩⟩

/-! Names with a star. -/
theorem okc_star : okc 42 = false := by decide
theorem lab_star {x : Bs} (h : isLab x = true) (hx : x.head? = some 42) : x = [42] := by
  unfold isLab at h
  simp only [Bool.or_eq_true, beq_iff_eq, Bool.and_eq_true] at h
  rcases h with h | h
  · exact h
  · cases x with
    | nil => cases hx
    | cons c s =>
      simp only [List.head?_cons, Option.some.injEq] at hx
      subst hx
      have := h.2
      simp [okc_star] at this
theorem star_head {n : Bs} (h : Fit n) : star n = true ↔ (split n).head? = some [42] := by
  have hb := h.back
  have hl := h.labs
  unfold star
  generalize split n = l at *
  subst hb
  cases l with
  | nil => simp [join]
  | cons x r =>
    have hx := labsOk_all hl x (by simp)
    have hne := isLab_ne hx
    have hh : (join (x :: r)).head? = x.head? := by
      unfold join
      rw [if_neg (by simp)]
      cases x with
      | nil => exact absurd rfl hne
      | cons c s => simp
    rw [hh]
    simp only [beq_iff_eq, List.head?_cons, Option.some.injEq]
    exact ⟨fun e => lab_star hx e, fun e => by rw [e]; rfl⟩
theorem star_under {n c : Bs} (h : Zn.under n c = true) (hs : star n = false) : star c = false := by
  obtain ⟨hn, hc, t, ht⟩ := under_iff.1 h
  cases hsc : star c with
  | false => rfl
  | true =>
    have h1 := (star_head hc).1 hsc
    have hl := hn.labs
    cases t with
    | nil =>
      rw [(star_head hn).2 (by rw [← ht]; exact h1)] at hs
      cases hs
    | cons y t =>
      rw [← ht] at hl
      cases hcs : split c with
      | nil => rw [hcs] at h1; cases h1
      | cons x r =>
        rw [hcs] at h1 hl
        simp only [List.head?_cons, Option.some.injEq] at h1
        subst h1
        simp [labsOk] at hl

/-! ReplyRefer. -/
theorem refer_code {z : Zone} {name : Bs} {kind : Int} (h : (body z name kind).code = 3) : ∃ c, cutF z name = some c ∧ body z name kind = refer z c := by
  unfold body at h ⊢
  cases hc : cutF z name with
  | some c => exact ⟨c, rfl, rfl⟩
  | none =>
    rw [hc] at h
    dsimp only at h
    split at h
    · rcases owned_code z name name kind with e | e | e <;> rw [e] at h <;> cases h
    · split at h
      · rcases owned_code z (wild z name) name kind with e | e | e <;> rw [e] at h <;> cases h
      · cases h
theorem cut_self {z : Zone} {name c : Bs} (h : cutF z name = some c) : cutF z c = some c := by
  have hi := cutF_some h
  refine IsCut.cutF ⟨?_, fun r hr hd => hi.least r hr ⟨under_trans hi.under hd.1, hd.2⟩⟩
  obtain ⟨r, hr, hd, rfl⟩ := hi.is
  exact ⟨r, hr, ⟨under_self (under_iff.1 hd.1).2.1, hd.2⟩, rfl⟩
theorem refer_law {z : Zone} {name : Bs} {kind : Int} (h0 : chk z name kind = 0) (h : (body z name kind).code = 3) :
    ∃ c x l, body z name kind = refer z c ∧ (refer z c).servers = x :: l ∧ x.name = c ∧ answer z c 4 = (refer z c, 0) := by
  obtain ⟨c, hc, hb⟩ := refer_code h
  have k := chk_ok h0
  obtain ⟨x, l, hx⟩ := List.exists_cons_of_ne_nil (refer_servers hc)
  refine ⟨c, x, l, hb, hx, ?_, ?_⟩
  · exact (recsOf_mem (l := z.recs) (name := c) (kind := 3) (as := c) (x := x) (by show x ∈ (refer z c).servers; rw [hx]; simp)).1
  · have hi := cutF_some hc
    obtain ⟨r, hr, hd, e⟩ := hi.is
    have hu : Zn.under c z.origin = true := by rw [← e]; exact (k.zone.each hr).in_
    unfold answer
    rw [chk_zero (chk_zone h0) (under_iff.1 hi.under).2.1 (star_under hi.under k.star) (by decide) hu, if_neg (by simp)]
    unfold body
    rw [cut_self hc]

/-! ReplyNoName. -/
theorem noName_code {z : Zone} {name : Bs} {kind : Int} (h : (body z name kind).code = 5) : cutF z name = none ∧ has z.recs name = false ∧ recsOf z.recs (wild z name) 0 (wild z name) = [] := by
  unfold body at h
  cases hc : cutF z name with
  | some c => rw [hc] at h; cases h
  | none =>
    rw [hc] at h
    dsimp only at h
    split at h
    · rcases owned_code z name name kind with e | e | e <;> rw [e] at h <;> cases h
    · rename_i h1
      split at h
      · rcases owned_code z (wild z name) name kind with e | e | e <;> rw [e] at h <;> cases h
      · rename_i h2
        exact ⟨rfl, by simpa using h1, by simpa using h2⟩
theorem noName_body {z : Zone} {name : Bs} (kind : Int) (h1 : cutF z name = none) (h2 : has z.recs name = false) (h3 : recsOf z.recs (wild z name) 0 (wild z name) = []) : body z name kind = { code := 5, neg := negOf z.recs } := by
  unfold body
  rw [h1]
  dsimp only
  rw [if_neg (by simp [h2]), if_neg (by simp [h3])]
theorem noName_kinds {z : Zone} {name : Bs} {kind : Int} (h0 : chk z name kind = 0) (h : (body z name kind).code = 5) (k : Int) (hk : 1 ≤ k ∧ k ≤ 5) : answer z name k = ({ code := 5, neg := negOf z.recs }, 0) := by
  obtain ⟨h1, h2, h3⟩ := noName_code h
  have c := chk_ok h0
  unfold answer
  rw [chk_zero (chk_zone h0) c.fit c.star hk c.in_, if_neg (by simp), noName_body k h1 h2 h3]
theorem has_up {l : List Rec} {n m : Bs} (h : Zn.under m n = true) (hm : has l m = true) : has l n = true := by
  unfold has at hm ⊢
  rw [List.any_eq_true] at hm ⊢
  obtain ⟨r, hr, hu⟩ := hm
  exact ⟨r, hr, under_trans hu h⟩
theorem noName_below {z : Zone} {name : Bs} {kind : Int} (h0 : chk z name kind = 0) (h : (body z name kind).code = 5) (hm : (answer z (120 :: 46 :: name) kind).2 = 0) : (answer z (120 :: 46 :: name) kind).1.code = 5 := by
  obtain ⟨h1, h2, h3⟩ := noName_code h
  have c := chk_ok h0
  have hs : split name ≠ [] := by
    intro e
    have hi := c.in_
    rw [under_iff, e] at hi
    have e2 := List.suffix_nil.1 hi.2.2
    have : name = z.origin := fit_split hi.1 hi.2.1 (e.trans e2.symm)
    rw [this, c.zone.root] at h2
    cases h2
  have hback : join (split name) = name := c.fit.back
  have hj : 120 :: 46 :: name = join ([120] :: split name) := by
    conv => lhs; rw [← hback]
    unfold join
    rw [if_neg hs, if_neg (by simp)]
    rfl
  have hlabs : labsOk ([120] :: split name) = true := by
    have hl := c.fit.labs
    have hst : (split name).head? ≠ some [42] := fun e => by
      have := (star_head c.fit).2 e
      rw [c.star] at this; cases this
    cases hsp : split name with
    | nil => exact absurd hsp hs
    | cons x r =>
      rw [hsp] at hl hst
      unfold labsOk at hl ⊢
      rw [Bool.and_eq_true] at hl ⊢
      refine ⟨by decide, ?_⟩
      rw [List.all_cons, hl.1, hl.2]
      simp only [List.head?_cons, ne_eq, Option.some.injEq] at hst
      simp [hst]
  have hsplit : split (120 :: 46 :: name) = [120] :: split name := by rw [hj, split_join hlabs]
  unfold answer at hm ⊢
  by_cases hc : chk z (120 :: 46 :: name) kind = 0
  · rw [if_neg (by simp [hc])] at hm ⊢
    have cm := chk_ok hc
    have hup : Zn.under (120 :: 46 :: name) name = true := under_iff.2 ⟨cm.fit, c.fit, by rw [hsplit]; exact List.suffix_cons _ _⟩
    have g2 : has z.recs (120 :: 46 :: name) = false := by
      cases hh : has z.recs (120 :: 46 :: name) with
      | false => rfl
      | true => rw [has_up hup hh] at h2; cases h2
    have g1 : cutF z (120 :: 46 :: name) = none := by
      rw [cutF_none]
      intro r hr hd
      by_cases e : 120 :: 46 :: name = r.name
      · have : has z.recs name = true := by
          unfold has
          rw [List.any_eq_true]
          exact ⟨r, hr, by rw [← e]; exact hup⟩
        rw [this] at h2; cases h2
      · have := (deleg_up c.zone cm.fit hsplit hr e).1 hd
        rw [hback] at this
        exact cutF_none.1 h1 r hr this
    have g3 : wild z (120 :: 46 :: name) = wild z name := by
      unfold wild
      rw [hsplit]
      show (if has z.recs (join (split name)) = true then _ else wildL z.recs (split name)) = _
      rw [hback, if_neg (by simp [h2])]
    rw [noName_body kind g1 g2 (by rw [g3]; exact h3)]
  · rw [if_pos hc] at hm
    exact absurd hm hc

/-! The wildcard: one step upwards. -/
theorem wild_step {z : Zone} (hz : Ok z) {n : Bs} (hu : Zn.under n z.origin = true) (hn : has z.recs n = false) : ∃ x r, split n = x :: r ∧ Zn.under (join r) z.origin = true ∧ split (join r) = r ∧ Fit (join r) := by
  have hi := under_iff.1 hu
  have hne : n ≠ z.origin := by
    rintro rfl
    rw [hz.root] at hn; cases hn
  cases hs : split n with
  | nil =>
    rw [hs] at hi
    have e2 := List.suffix_nil.1 hi.2.2
    exact absurd (fit_split hi.1 hi.2.1 (hs.trans e2.symm)) hne
  | cons x r =>
    have h1 := under_up hi.1 hi.2.1 hs hne
    obtain ⟨f1, -, -⟩ := above_law hi.1 hi.1 hs
    exact ⟨x, r, rfl, by rw [← h1]; exact hu, split_join (labsOk_tail (x := x) (by rw [← hs]; exact hi.1.labs)), f1⟩
theorem wild_found {z : Zone} {n x : Bs} {r : List Bs} (hs : split n = x :: r) (h : has z.recs (join r) = true) : wild z n = 42 :: 46 :: (if r = [] then [] else join r) := by
  unfold wild
  rw [hs]
  show (if has z.recs (join r) = true then _ else _) = _
  rw [if_pos h]
theorem wild_on {z : Zone} {n x : Bs} {r : List Bs} (hs : split n = x :: r) (hr : split (join r) = r) (h : has z.recs (join r) = false) : wild z n = wild z (join r) := by
  unfold wild
  rw [hs, hr]
  show (if has z.recs (join r) = true then _ else wildL z.recs r) = _
  rw [if_neg (by simp [h])]
end Go.Proofs.YtajllcbjgndcpaaGreatDoor.Rn
