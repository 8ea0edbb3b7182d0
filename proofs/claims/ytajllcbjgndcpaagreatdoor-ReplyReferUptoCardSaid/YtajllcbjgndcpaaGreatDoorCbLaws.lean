/- PLAIN LAW (no program in sight): what a cache keeps; the three laws. -/
import Derived.Test.YtajllcbjgndcpaaGreatDoorCb
namespace Go.Proofs.YtajllcbjgndcpaaGreatDoor.Cb
open Lb

/-- What holds of each entry. -/
structure Good (now : Int) (x : Ent) : Prop where
  zero : x.kind = 0 → x.code = 5
  at0 : 0 ≤ x.at_
  at1 : x.at_ ≤ now
  few : x.recs.length ≤ 60
  ttl : ∀ r ∈ x.recs, 0 ≤ r.ttl ∧ r.ttl ≤ 1000000
  neg : x.recs = [] → 0 ≤ x.neg ∧ x.neg ≤ 1000000
def Apart (x y : Ent) : Prop := ¬ (x.name = y.name ∧ x.kind = y.kind)
/-- What holds of a cache. -/
structure Inv (c : Cac) : Prop where
  good : ∀ x ∈ c.es, Good c.now x
  apart : c.es.Pairwise Apart
  room : (c.es.length : Int) ≤ c.room
  pos : 1 ≤ c.room
  small : c.room ≤ 40
  now0 : 0 ≤ c.now

theorem inv_new (room : Int) (h : 1 ≤ room) (h' : room ≤ 40) : Inv ⟨room, 0, []⟩ := ⟨by simp, .nil, by simp; omega, h, h', Int.le_refl _⟩
theorem Good.later {now now' : Int} {x : Ent} (h : Good now x) (hn : now ≤ now') : Good now' x := ⟨h.zero, h.at0, by have := h.at1; omega, h.few, h.ttl, h.neg⟩
theorem chk_ok {c : Cac} {name : Bs} {kind now : Int} (h : chk c name kind now = 0) : Lb.check name = 0 ∧ 1 ≤ kind ∧ kind ≤ 5 ∧ 0 ≤ now ∧ now ≤ 1000000000 ∧ c.now ≤ now := by
  unfold chk at h
  split at h
  · rename_i h1; exact absurd h h1
  · rename_i h1
    split at h
    · exact absurd h (by decide)
    · split at h
      · exact absurd h (by decide)
      · split at h
        · exact absurd h (by decide)
        · exact ⟨Decidable.of_not_not h1, by omega, by omega, by omega, by omega, by omega⟩
theorem chk_of {c : Cac} {name : Bs} {kind now : Int} (h1 : Lb.check name = 0) (h2 : 1 ≤ kind) (h3 : kind ≤ 5) (h4 : 0 ≤ now) (h5 : now ≤ 1000000000) (h6 : c.now ≤ now) : chk c name kind now = 0 := by
  unfold chk
  rw [if_neg (by simp [h1]), if_neg (by omega), if_neg (by omega), if_neg (by omega)]

theorem inv_live {c : Cac} (h : Inv c) {now : Int} (hn : c.now ≤ now) : Inv ⟨c.room, now, live now c.es⟩ := by
  refine ⟨fun x hx => (h.good x (List.mem_filter.1 hx).1).later hn, h.apart.sublist (List.filter_sublist), ?_, h.pos, h.small, Int.le_trans h.now0 hn⟩
  have h1 : (live now c.es).length ≤ c.es.length := List.length_filter_le _ _
  have := h.room
  simp only
  omega

theorem life_range {c : Cac} {name : Bs} {kind now : Int} {r : Rp} (h : putErr c name kind r now = 0) :
    chk c name kind now = 0 ∧ (r.code = 1 ∨ r.code = 2 ∨ r.code = 4 ∨ r.code = 5) ∧ ¬ illForm r ∧ 0 ≤ life r ∧ life r ≤ 1000000 ∧ ∀ x ∈ r.recs, 0 ≤ x.ttl ∧ x.ttl ≤ 1000000 := by
  unfold putErr at h
  split at h
  · rename_i h1; exact absurd h h1
  · rename_i h1
    split at h
    · exact absurd h (by decide)
    · split at h
      · exact absurd h (by decide)
      · rename_i h3
        split at h
        · exact absurd h (by decide)
        · rename_i h4
          refine ⟨Decidable.of_not_not h1, by omega, h3, by omega, by omega, fun x hx => ?_⟩
          have h5 : ¬ r.recs.any badT = true := fun e => h4 (.inr (.inr e))
          have h6 : badT x = false := by
            cases hb : badT x with
            | false => rfl
            | true => exact absurd (List.any_eq_true.2 ⟨x, hx, hb⟩) h5
          simp only [badT, Bool.or_eq_false_iff, decide_eq_false_iff_not] at h6
          omega
theorem form_recs {r : Rp} (h : ¬ illForm r) : ((r.code = 1 ∨ r.code = 2) ↔ 0 < r.recs.length) ∧ r.recs.length ≤ 60 ∧ r.ns = 0 ∧ r.ng = 0 := by
  unfold illForm at h
  have h1 : ¬ (decide (r.code = 1 ∨ r.code = 2) ≠ decide (0 < r.recs.length)) := fun e => h (.inl e)
  have h2 := Decidable.of_not_not h1
  refine ⟨decide_eq_decide.1 h2, by omega, by omega, by omega⟩

theorem inv_put {c : Cac} (h : Inv c) (name : Bs) (kind : Int) (r : Rp) (now : Int) : Inv (put c name kind r now) := by
  unfold put
  split
  · exact h
  · rename_i hp
    have hp := Decidable.of_not_not hp
    obtain ⟨h1, h2, h3, h4, h5, h6⟩ := life_range hp
    obtain ⟨k1, k2, k3, k4, k5, k6⟩ := chk_ok h1
    obtain ⟨f1, f2, f3, f4⟩ := form_recs h3
    have hL := inv_live h k6
    have hgood : ∀ x ∈ (live now c.es).filter (fun x => !isQ name (kindOf r kind) x), Good now x := fun x hx => hL.good x (List.mem_filter.1 hx).1
    have hap : ((live now c.es).filter (fun x => !isQ name (kindOf r kind) x)).Pairwise Apart := hL.apart.sublist List.filter_sublist
    have hlen : ((live now c.es).filter (fun x => !isQ name (kindOf r kind) x)).length ≤ (live now c.es).length := List.length_filter_le _ _
    have hroom := hL.room
    simp only at hroom
    have hnot : ∀ x ∈ (live now c.es).filter (fun x => !isQ name (kindOf r kind) x), ¬ (x.name = name ∧ x.kind = kindOf r kind) := fun x hx e => by
      have := (List.mem_filter.1 hx).2
      simp [isQ, e.1, e.2] at this
    refine ⟨?_, ?_, ?_, h.pos, h.small, k4⟩
    all_goals unfold putE
    all_goals simp only
    all_goals generalize (live now c.es).filter (fun x => !isQ name (kindOf r kind) x) = es at *
    · split
      · exact hgood
      · intro x hx
        unfold lay roomFor at hx
        rcases List.mem_append.1 hx with hx | hx
        · split at hx
          · exact hgood x (List.mem_of_mem_drop hx)
          · exact hgood x hx
        · simp only [List.mem_singleton] at hx
          subst hx
          refine ⟨fun hk => ?_, k4, Int.le_refl _, f2, h6, fun e => ?_⟩
          · simp only [kindOf] at hk ⊢
            split at hk
            · assumption
            · omega
          · simp only at e ⊢
            rw [e] at f1
            have h45 : r.code = 4 ∨ r.code = 5 := by simp at f1; omega
            unfold life at h4 h5
            rw [if_pos h45] at h4 h5
            exact ⟨h4, h5⟩
    · split
      · exact hap
      · unfold lay
        rw [List.pairwise_append]
        refine ⟨?_, by simp, fun x hx y hy => ?_⟩
        · unfold roomFor
          split
          · exact hap.sublist (List.drop_sublist _ _)
          · exact hap
        · simp only [List.mem_singleton] at hy
          subst hy
          have hx' : x ∈ es := by
            unfold roomFor at hx
            split at hx
            · exact List.mem_of_mem_drop hx
            · exact hx
          exact hnot x hx'
    · split
      · omega
      · unfold lay roomFor
        have := h.pos
        split <;> simp <;> omega

theorem spot_lt {es : List Ent} {name : Bs} {kind : Int} {k : Nat} (h : spot es name kind = some k) : ∃ x, es[k]? = some x ∧ (isQ name 0 x = true ∨ isQ name kind x = true ∧ ∀ y ∈ es, isQ name 0 y = false) := by
  unfold spot at h
  split at h
  · rename_i j hj
    injection h with h
    subst h
    obtain ⟨hk, hp, _⟩ := List.findIdx?_eq_some_iff_getElem.1 hj
    exact ⟨_, List.getElem?_eq_getElem hk, .inl hp⟩
  · rename_i hn
    obtain ⟨hk, hp, _⟩ := List.findIdx?_eq_some_iff_getElem.1 h
    exact ⟨_, List.getElem?_eq_getElem hk, .inr ⟨hp, fun y hy => List.findIdx?_eq_none_iff.1 hn y hy⟩⟩
theorem getE_perm {es : List Ent} {k : Nat} (hk : k < es.length) : (getE es k).Perm es := by
  unfold getE
  rw [List.getElem?_eq_getElem hk, List.eraseIdx_eq_take_drop_succ]
  have : es = es.take k ++ es[k] :: es.drop (k + 1) := by
    conv => lhs; rw [← List.take_append_drop k es, List.drop_eq_getElem_cons hk]
  conv => rhs; rw [this]
  simp only [Option.toList_some, List.append_assoc]
  exact List.Perm.append_left _ List.perm_append_comm
theorem apart_symm {x y : Ent} (h : Apart x y) : Apart y x := fun e => h ⟨e.1.symm, e.2.symm⟩
theorem inv_perm {room now : Int} {es es' : List Ent} (h : Inv ⟨room, now, es⟩) (hp : es'.Perm es) : Inv ⟨room, now, es'⟩ :=
  ⟨fun x hx => h.good x (hp.mem_iff.1 hx), (hp.pairwise_iff apart_symm).2 h.apart, by have := h.room; simp only at this ⊢; rw [hp.length_eq]; exact this, h.pos, h.small, h.now0⟩
theorem inv_get {c : Cac} (h : Inv c) (name : Bs) (kind now : Int) : Inv (get c name kind now) := by
  unfold get
  split
  · exact h
  · rename_i hc
    obtain ⟨_, _, _, _, _, k6⟩ := chk_ok (Decidable.of_not_not hc)
    have hL := inv_live h k6
    split
    · exact hL
    · rename_i k hk
      obtain ⟨x, hx, _⟩ := spot_lt hk
      exact inv_perm hL (getE_perm (List.getElem?_eq_some_iff.1 hx).1)

theorem live_idem (now : Int) (es : List Ent) : live now (live now es) = live now es := by
  unfold live; rw [List.filter_filter]; congr 1; funext x; simp
theorem live_self {now : Int} {es : List Ent} (h : ∀ x ∈ es, now < x.til) : live now es = es := List.filter_eq_self.2 fun x hx => by simp; exact h x hx
theorem live_mem {now : Int} {es : List Ent} {x : Ent} (h : x ∈ live now es) : x ∈ es ∧ now < x.til := by
  obtain ⟨h1, h2⟩ := List.mem_filter.1 h
  exact ⟨h1, by simpa using h2⟩
theorem one_of {es : List Ent} (h : es.Pairwise Apart) {x y : Ent} (hx : x ∈ es) (hy : y ∈ es) {name : Bs} {kind : Int} (h1 : isQ name kind x = true) (h2 : isQ name kind y = true) : x = y := by
  simp only [isQ, decide_eq_true_eq] at h1 h2
  induction es with
  | nil => cases hx
  | cons z r ih =>
    rw [List.pairwise_cons] at h
    rcases List.mem_cons.1 hx with ex | hx2
    · rcases List.mem_cons.1 hy with ey | hy2
      · rw [ex, ey]
      · subst ex; exact absurd ⟨h1.1.trans h2.1.symm, h1.2.trans h2.2.symm⟩ (h.1 y hy2)
    · rcases List.mem_cons.1 hy with ey | hy2
      · subst ey; exact absurd ⟨h2.1.trans h1.1.symm, h2.2.trans h1.2.symm⟩ (h.1 x hx2)
      · exact ih h.2 hx2 hy2
theorem spot_is {es : List Ent} (h : es.Pairwise Apart) {x : Ent} (hx : x ∈ es) {name : Bs} {kind : Int} (hq : isQ name 0 x = true ∨ isQ name kind x = true ∧ ∀ y ∈ es, isQ name 0 y = false) :
    ∃ j, spot es name kind = some j ∧ es[j]? = some x := by
  unfold spot
  rcases hq with hq | ⟨hq, hno⟩
  · cases hf : es.findIdx? (isQ name 0) with
    | none => have := List.findIdx?_eq_none_iff.1 hf x hx; rw [hq] at this; cases this
    | some j =>
      obtain ⟨hj, hp, _⟩ := List.findIdx?_eq_some_iff_getElem.1 hf
      exact ⟨j, rfl, by rw [List.getElem?_eq_getElem hj, one_of h (List.getElem_mem hj) hx hp hq]⟩
  · have hn : es.findIdx? (isQ name 0) = none := List.findIdx?_eq_none_iff.2 hno
    rw [hn]
    cases hf : es.findIdx? (isQ name kind) with
    | none => have := List.findIdx?_eq_none_iff.1 hf x hx; rw [hq] at this; cases this
    | some j =>
      obtain ⟨hj, hp, _⟩ := List.findIdx?_eq_some_iff_getElem.1 hf
      exact ⟨j, rfl, by rw [List.getElem?_eq_getElem hj, one_of h (List.getElem_mem hj) hx hp hq]⟩

def other : Bs := [111, 116, 104, 101, 114, 46]
def noData : Rp := ⟨4, [], 0, 0, 9⟩
theorem put_other {c : Cac} {now : Int} (h0 : 0 ≤ now) (h1 : now ≤ 1000000000) (h2 : c.now ≤ now) : putErr c other 4 noData now = 0 := by
  unfold putErr
  have hc : chk c other 4 now = 0 := chk_of (by decide +kernel) (by decide) (by decide) h0 h1 h2
  rw [if_neg (by simp [hc]), if_neg (by decide), if_neg (by decide), if_neg (by decide)]
theorem got_some {c : Cac} {name : Bs} {kind now : Int} {r : Rp} (h : got c name kind now = some r) : chk c name kind now = 0 ∧ ∃ k x, spot (live now c.es) name kind = some k ∧ (live now c.es)[k]? = some x ∧ r = answer x now := by
  unfold got at h
  split at h
  · cases h
  · rename_i hc
    refine ⟨Decidable.of_not_not hc, ?_⟩
    split at h
    · cases h
    · rename_i k hk
      rw [Option.map_eq_some_iff] at h
      obtain ⟨x, hx, hr⟩ := h
      exact ⟨k, x, hk, hx, hr.symm⟩

/-- CacheRoom's law. -/
theorem room_law {c : Cac} (h : Inv c) {name : Bs} {kind now : Int} {r : Rp} (h0 : 0 ≤ now) (h1 : now ≤ 1000000000) (hg : got c name kind now = some r) (hroom : 2 ≤ c.room) (hname : name ≠ other) :
    let c2 := put (get c name kind now) other 4 noData now
    got ⟨c2.room, now, live now c2.es⟩ name kind now = some r := by
  obtain ⟨hc, k, x, hk, hx, rfl⟩ := got_some hg
  obtain ⟨hkl, hxe⟩ := List.getElem?_eq_some_iff.1 hx
  have hget : get c name kind now = ⟨c.room, now, getE (live now c.es) k⟩ := by
    unfold get; rw [if_neg (by simp [hc]), hk]
  have hI1 := inv_get h name kind now
  have hp : putErr (get c name kind now) other 4 noData now = 0 := put_other h0 h1 (by rw [hget]; exact Int.le_refl _)
  have hI2 := inv_put hI1 other 4 noData now
  have hput : put (get c name kind now) other 4 noData now = ⟨(get c name kind now).room, now, putE (get c name kind now) other 4 noData now⟩ := by
    unfold put; rw [if_neg (by simp [hp])]
  have hI3 := inv_live hI2 (now := now) (by rw [hput]; exact Int.le_refl _)
  obtain ⟨c1', c2', c3', c4', c5', c6'⟩ := chk_ok hc
  have hxq := spot_lt hk
  obtain ⟨x', hx', hq⟩ := hxq
  rw [hx] at hx'
  injection hx' with hx'
  subst hx'
  have hxm : x ∈ live now c.es := List.mem_of_getElem? hx
  have hxn : x.name = name := by
    rcases hq with hq | ⟨hq, _⟩ <;> simp [isQ] at hq <;> exact hq.1
  have hall : ∀ y ∈ getE (live now c.es) k, y ∈ live now c.es := fun y hy => (getE_perm hkl).mem_iff.1 hy
  have hE : putE (get c name kind now) other 4 noData now = roomFor c.room ((getE (live now c.es) k).filter fun y => !isQ other 4 y) ++ [⟨other, 4, 4, [], 9, now, now + 9⟩] := by
    unfold putE
    rw [hget]
    simp only
    rw [live_self (fun y hy => (live_mem (hall y hy)).2)]
    rfl
  have hmem : x ∈ roomFor c.room ((getE (live now c.es) k).filter fun y => !isQ other 4 y) := by
    unfold getE
    rw [List.getElem?_eq_getElem hkl, hxe, List.filter_append]
    have hx4 : isQ other 4 x = false := by
      simp only [isQ, decide_eq_false_iff_not]
      intro e; exact hname (hxn.symm.trans e.1)
    have : ([x].filter fun y => !isQ other 4 y) = [x] := by simp [hx4]
    rw [Option.toList_some, this]
    unfold roomFor
    split
    · rename_i hl
      rw [List.length_append, List.length_singleton] at hl
      rw [List.drop_append_of_le_length (by omega)]
      simp
    · simp
  have hsub : ∀ y ∈ roomFor c.room ((getE (live now c.es) k).filter fun y => !isQ other 4 y), y ∈ live now c.es := by
    intro y hy
    unfold roomFor at hy
    split at hy
    · exact hall y (List.mem_filter.1 (List.mem_of_mem_drop hy)).1
    · exact hall y (List.mem_filter.1 hy).1
  have hlive : live now (putE (get c name kind now) other 4 noData now) = putE (get c name kind now) other 4 noData now := by
    refine live_self fun y hy => ?_
    rw [hE] at hy
    rcases List.mem_append.1 hy with hy | hy
    · exact (live_mem (hsub y hy)).2
    · simp only [List.mem_singleton] at hy; subst hy; simp only; omega
  simp only
  rw [hput] at hI3 ⊢
  simp only at hI3 ⊢
  rw [hlive] at hI3 ⊢
  have hxin : x ∈ putE (get c name kind now) other 4 noData now := by rw [hE]; exact List.mem_append_left _ hmem
  obtain ⟨j, hj, hjx⟩ := spot_is hI3.apart hxin (name := name) (kind := kind) (by
    rcases hq with hq | ⟨hq, hno⟩
    · exact .inl hq
    · refine .inr ⟨hq, fun y hy => ?_⟩
      simp only at hy
      rw [hE] at hy
      rcases List.mem_append.1 hy with hy | hy
      · exact hno y (hsub y hy)
      · simp only [List.mem_singleton] at hy
        subst hy
        simp only [isQ, decide_eq_false_iff_not]
        intro e; exact hname e.1.symm)
  have hk0 : chk ⟨(get c name kind now).room, now, putE (get c name kind now) other 4 noData now⟩ name kind now = 0 := chk_of c1' c2' c3' c4' c5' (Int.le_refl now)
  unfold got
  rw [if_neg (by rw [hk0]; simp)]
  simp only
  rw [hlive]
  simp only at hj
  rw [hj]
  simp only at hjx ⊢
  rw [hjx]; rfl

theorem chk_later {c : Cac} {name : Bs} {kind now now' : Int} (h : chk c name kind now = 0) {c' : Cac} (h' : c'.now ≤ now') (hn : now ≤ now') (hm : now' ≤ 1000000000) : chk c' name kind now' = 0 := by
  obtain ⟨h1, h2, h3, h4, h5, h6⟩ := chk_ok h
  exact chk_of h1 h2 h3 (by omega) hm h'
/-- CacheFresh's law. -/
theorem fresh_law {c : Cac} (h : Inv c) {name : Bs} {kind now wait : Int} {r : Rp} (hp : putErr c name kind r now = 0) (hw : 0 ≤ wait) (hm : now + wait ≤ 1000000000) :
    chk (put c name kind r now) name kind (now + wait) = 0 ∧
    (life r ≤ wait → ∀ x, got (put c name kind r now) name kind (now + wait) = some x → x.code = 5 ∨ r.code = 5) ∧
    (wait < life r → ∃ x, got (put c name kind r now) name kind (now + wait) = some x ∧ (x.code = 5 ∨ x.code = r.code ∧ x.recs = r.recs.map (older wait))) := by
  obtain ⟨h1, h2, h3, h4, h5, h6⟩ := life_range hp
  obtain ⟨k1, k2, k3, k4, k5, k6⟩ := chk_ok h1
  have hput : put c name kind r now = ⟨c.room, now, putE c name kind r now⟩ := by unfold put; rw [if_neg (by simp [hp])]
  have hI := inv_put h name kind r now
  rw [hput] at hI ⊢
  have hI2 := inv_live hI (now := now + wait) (by simp only; omega)
  have hchk : chk ⟨c.room, now, putE c name kind r now⟩ name kind (now + wait) = 0 := chk_later h1 (by simp only; omega) (by omega) hm
  refine ⟨hchk, fun hl x hx => ?_, fun hl => ?_⟩
  · obtain ⟨_, k, y, hk, hy, rfl⟩ := got_some hx
    obtain ⟨y', hy', hq⟩ := spot_lt hk
    rw [hy] at hy'
    injection hy' with hy'
    subst hy'
    obtain ⟨m1, m2⟩ := live_mem (List.mem_of_getElem? hy)
    simp only [answer]
    rcases hq with hq | ⟨hq, _⟩
    · simp only [isQ, decide_eq_true_eq] at hq
      exact .inl ((hI.good y m1).zero hq.2)
    · by_cases h5' : r.code = 5
      · exact .inr h5'
      · exfalso
        have hko : kindOf r kind = kind := by unfold kindOf; rw [if_neg h5']
        unfold putE at m1
        simp only [hko] at m1
        have hnf : ∀ z ∈ (live now c.es).filter (fun z => !isQ name kind z), isQ name kind z = false := fun z hz => by simpa using (List.mem_filter.1 hz).2
        split at m1
        · rw [hnf y m1] at hq; cases hq
        · unfold lay at m1
          rcases List.mem_append.1 m1 with m1 | m1
          · have : y ∈ (live now c.es).filter (fun z => !isQ name kind z) := by
              unfold roomFor at m1
              split at m1
              · exact List.mem_of_mem_drop m1
              · exact m1
            rw [hnf y this] at hq; cases hq
          · simp only [List.mem_singleton] at m1
            subst m1
            simp only at m2
            omega
  · have hne : ¬ life r = 0 := by omega
    have hN : (⟨name, kindOf r kind, r.code, r.recs, r.neg, now, now + life r⟩ : Ent) ∈ live (now + wait) (putE c name kind r now) := by
      refine List.mem_filter.2 ⟨?_, by simp; omega⟩
      unfold putE
      simp only
      rw [if_neg hne]
      exact List.mem_append_right _ (by simp)
    by_cases h5' : r.code = 5
    · obtain ⟨j, hj, hjx⟩ := spot_is hI2.apart hN (name := name) (kind := kind) (.inl (by simp [isQ, kindOf, h5']))
      refine ⟨_, by unfold got; rw [if_neg (by simp [hchk])]; simp only at hj hjx ⊢; rw [hj]; simp only; rw [hjx]; rfl, .inl ?_⟩
      simp only [answer]; exact h5'
    · have hko : kindOf r kind = kind := by unfold kindOf; rw [if_neg h5']
      rw [hko] at hN
      by_cases hz : ∃ y ∈ live (now + wait) (putE c name kind r now), isQ name 0 y = true
      · obtain ⟨y, hy, hyq⟩ := hz
        obtain ⟨j, hj, hjx⟩ := spot_is hI2.apart hy (name := name) (kind := kind) (.inl hyq)
        refine ⟨_, by unfold got; rw [if_neg (by simp [hchk])]; simp only at hj hjx ⊢; rw [hj]; simp only; rw [hjx]; rfl, .inl ?_⟩
        simp only [isQ, decide_eq_true_eq] at hyq
        exact (hI2.good y hy).zero hyq.2
      · have hz' : ∀ y ∈ live (now + wait) (putE c name kind r now), isQ name 0 y = false := fun y hy => by
          cases hb : isQ name 0 y with
          | false => rfl
          | true => exact absurd ⟨y, hy, hb⟩ hz
        obtain ⟨j, hj, hjx⟩ := spot_is hI2.apart hN (name := name) (kind := kind) (.inr ⟨by simp [isQ], hz'⟩)
        refine ⟨answer ⟨name, kind, r.code, r.recs, r.neg, now, now + life r⟩ (now + wait), by unfold got; rw [if_neg (by simp [hchk])]; simp only at hj hjx ⊢; rw [hj]; simp only; rw [hjx]; rfl, .inr ⟨rfl, ?_⟩⟩
        simp only [answer]
        rw [show now + wait - now = wait by omega]
end Go.Proofs.YtajllcbjgndcpaaGreatDoor.Cb
