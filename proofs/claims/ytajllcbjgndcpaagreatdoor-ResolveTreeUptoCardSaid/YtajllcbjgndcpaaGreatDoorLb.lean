/- PLAIN LAW (no program in sight): names, their labels, their order, their packing. -/
namespace Go.Proofs.YtajllcbjgndcpaaGreatDoor.Lb
abbrev Bs := List UInt8

/-- The bytes a label may hold. -/
def okc (c : UInt8) : Bool := (decide (97 ≤ c) && decide (c ≤ 122)) || (decide (48 ≤ c) && decide (c ≤ 57)) || c == 45 || c == 95
def isLab (s : Bs) : Bool := s == [42] || (decide (1 ≤ s.length) && decide (s.length ≤ 20) && !(s.head? == some 45) && s.all okc)
/-- Cut at each dot. -/
def cut : Bs → List Bs
  | [] => [[]]
  | c :: s => if c = 46 then [] :: cut s else match cut s with
    | [] => [[c]]
    | x :: r => (c :: x) :: r
def dropDot (s : Bs) : Bs := if s.getLast? = some 46 then s.dropLast else s
def split (n : Bs) : List Bs := if n = [46] ∨ n = [] then [] else cut (dropDot n)
/-- Are the labels fit: each a label, '*' at the head alone. -/
def labsOk : List Bs → Bool
  | [] => true
  | x :: r => isLab x && r.all fun s => isLab s && !(s == [42])
def check (n : Bs) : Int :=
  if n.length > 80 then 2 else if n = [46] then 0 else if n.getLast? ≠ some 46 then 3 else if labsOk (split n) = false then 3 else if (split n).length > 8 then 2 else 0
def join (l : List Bs) : Bs := if l = [] then [46] else l.flatMap (· ++ [46])

theorem cut_ne (s : Bs) : cut s ≠ [] := by
  cases s with
  | nil => simp [cut]
  | cons c s =>
    unfold cut
    split
    · simp
    · split <;> simp

theorem cut_join : ∀ s : Bs, (cut s).flatMap (· ++ [46]) = s ++ [46]
  | [] => rfl
  | c :: s => by
    have ih := cut_join s
    unfold cut
    split
    · rename_i h; simp [ih, h]
    · have hn := cut_ne s
      cases hc : cut s with
      | nil => exact absurd hc hn
      | cons x r => rw [hc] at ih; simp at ih ⊢; exact ih

theorem cut_nodot : ∀ (s : Bs) (x : Bs), x ∈ cut s → (46 : UInt8) ∉ x
  | [], x, h => by simp [cut] at h; subst h; simp
  | c :: s, x, h => by
    have ih := cut_nodot s
    unfold cut at h
    split at h
    · simp at h
      rcases h with rfl | h
      · simp
      · exact ih x h
    · rename_i hc
      cases hcs : cut s with
      | nil => exact absurd hcs (cut_ne s)
      | cons y r =>
        rw [hcs] at h
        simp at h
        rcases h with rfl | h
        · have := ih y (by simp [hcs])
          simp [Ne.symm hc, this]
        · exact ih x (by simp [hcs, h])

theorem dropDot_last {n : Bs} (h : n.getLast? = some 46) : dropDot n ++ [46] = n := by
  unfold dropDot
  rw [if_pos h]
  obtain ⟨l, rfl⟩ := List.getLast?_eq_some_iff.1 h
  simp

/-- What a fit name is. -/
structure Fit (n : Bs) : Prop where
  len : n.length ≤ 80
  labs : labsOk (split n) = true
  many : (split n).length ≤ 8
  back : join (split n) = n

theorem split_back {n : Bs} (h : n.getLast? = some 46) : join (split n) = n := by
  unfold split
  split
  · rename_i hd
    rcases hd with rfl | rfl
    · rfl
    · simp at h
  · unfold join
    rw [if_neg (cut_ne _), cut_join, dropDot_last h]

theorem check_fit {n : Bs} : check n = 0 ↔ Fit n := by
  unfold check
  constructor
  · intro h
    split at h
    · exact absurd h (by decide)
    · rename_i h1
      split at h
      · rename_i h2; subst h2; exact ⟨by decide, by decide, by decide, by decide⟩
      · split at h
        · exact absurd h (by decide)
        · rename_i h3
          split at h
          · exact absurd h (by decide)
          · rename_i h4
            split at h
            · exact absurd h (by decide)
            · exact ⟨by omega, by simpa using h4, by omega, split_back (by simpa using h3)⟩
  · intro h
    obtain ⟨h1, h2, h3, h4⟩ := h
    rw [if_neg (by omega)]
    split
    · rfl
    · rename_i hn
      have h5 : n.getLast? = some 46 := by
        rw [← h4]; unfold join
        split
        · rfl
        · rename_i hne
          obtain ⟨x, hx⟩ : ∃ x, (split n).getLast? = some x := by
            cases hl : (split n).getLast? with
            | none => exact absurd (List.getLast?_eq_none_iff.1 hl) hne
            | some x => exact ⟨x, rfl⟩
          obtain ⟨l, hl⟩ := List.getLast?_eq_some_iff.1 hx
          rw [hl]; simp
      rw [if_neg (by simp [h5]), if_neg (by simp [h2]), if_neg (by omega)]

/-- Go's '<' on strings. -/
def blt : Bs → Bs → Bool
  | _, [] => false
  | [], _ :: _ => true
  | a :: s, b :: t => decide (a < b) || (a == b && blt s t)
def cmpS (a b : Bs) : Int := if blt a b then -1 else if blt b a then 1 else 0
def cmpL : List Bs → List Bs → Int
  | [], [] => 0
  | [], _ :: _ => -1
  | _ :: _, [] => 1
  | x :: r, y :: t => if cmpS x y = 0 then cmpL r t else cmpS x y
def compare (a b : Bs) : Int := cmpL (split a).reverse (split b).reverse
def under (n o : Bs) : Bool := (split o).isSuffixOf (split n)

theorem blt_irrefl : ∀ a : Bs, blt a a = false
  | [] => rfl
  | a :: s => by simp [blt, blt_irrefl s]
theorem blt_asymm : ∀ a b : Bs, blt a b = true → blt b a = false
  | _, [], h => by simp [blt] at h
  | [], _ :: _, _ => by simp [blt]
  | a :: s, b :: t, h => by
    simp only [blt, Bool.or_eq_true, Bool.and_eq_true, decide_eq_true_eq, beq_iff_eq] at h
    simp only [blt, Bool.or_eq_false_iff, Bool.and_eq_false_iff, decide_eq_false_iff_not, beq_eq_false_iff_ne]
    rcases h with h | ⟨rfl, h⟩
    · exact ⟨by rw [UInt8.not_lt]; exact UInt8.le_of_lt h, .inl (by intro e; subst e; exact absurd h (UInt8.lt_irrefl _))⟩
    · exact ⟨UInt8.lt_irrefl _, .inr (blt_asymm s t h)⟩
theorem blt_total : ∀ a b : Bs, blt a b = false → blt b a = false → a = b
  | [], [], _, _ => rfl
  | [], _ :: _, h, _ => by simp [blt] at h
  | _ :: _, [], _, h => by simp [blt] at h
  | a :: s, b :: t, h1, h2 => by
    simp only [blt, Bool.or_eq_false_iff, Bool.and_eq_false_iff, decide_eq_false_iff_not, beq_eq_false_iff_ne] at h1 h2
    have e : a = b := UInt8.le_antisymm (UInt8.not_lt.1 h2.1) (UInt8.not_lt.1 h1.1)
    subst e
    have := blt_total s t (by rcases h1.2 with h | h; exact absurd rfl h; exact h) (by rcases h2.2 with h | h; exact absurd rfl h; exact h)
    rw [this]
theorem blt_trans : ∀ a b c : Bs, blt a b = true → blt b c = true → blt a c = true
  | _, [], _, h, _ => by simp [blt] at h
  | _, _ :: _, [], _, h => by simp [blt] at h
  | [], _ :: _, _ :: _, _, _ => by simp [blt]
  | a :: s, b :: t, c :: u, h1, h2 => by
    simp only [blt, Bool.or_eq_true, Bool.and_eq_true, decide_eq_true_eq, beq_iff_eq] at h1 h2 ⊢
    rcases h1 with h1 | ⟨rfl, h1⟩
    · rcases h2 with h2 | ⟨rfl, h2⟩
      · exact .inl (UInt8.lt_trans h1 h2)
      · exact .inl h1
    · rcases h2 with h2 | ⟨rfl, h2⟩
      · exact .inl h2
      · exact .inr ⟨rfl, blt_trans s t u h1 h2⟩

theorem cmpS_self (a : Bs) : cmpS a a = 0 := by simp [cmpS, blt_irrefl]
theorem cmpS_zero {a b : Bs} : cmpS a b = 0 ↔ a = b := by
  constructor
  · intro h
    unfold cmpS at h
    split at h
    · exact absurd h (by decide)
    · split at h
      · exact absurd h (by decide)
      · exact blt_total a b (by simp_all) (by simp_all)
  · rintro rfl; exact cmpS_self a
theorem cmpS_neg (a b : Bs) : cmpS b a = - cmpS a b := by
  unfold cmpS
  by_cases h1 : blt a b = true
  · rw [if_pos h1, if_neg (by simp [blt_asymm a b h1]), if_pos h1]; rfl
  · rw [if_neg h1]
    by_cases h2 : blt b a = true
    · rw [if_pos h2, if_pos h2, if_neg h1]
    · rw [if_neg h2, if_neg h2, if_neg h1]; rfl
theorem cmpS_lt {a b : Bs} : cmpS a b < 0 ↔ blt a b = true := by
  unfold cmpS
  split
  · simp_all
  · split <;> simp_all
theorem cmpS_trans {a b c : Bs} (h1 : cmpS a b < 0) (h2 : cmpS b c < 0) : cmpS a c < 0 := cmpS_lt.2 (blt_trans a b c (cmpS_lt.1 h1) (cmpS_lt.1 h2))

theorem cmpL_self : ∀ a : List Bs, cmpL a a = 0
  | [] => rfl
  | x :: r => by unfold cmpL; rw [if_pos (cmpS_self x)]; exact cmpL_self r
theorem cmpL_zero : ∀ {a b : List Bs}, cmpL a b = 0 → a = b
  | [], [], _ => rfl
  | [], _ :: _, h => by simp [cmpL] at h
  | _ :: _, [], h => by simp [cmpL] at h
  | x :: r, y :: t, h => by
    unfold cmpL at h
    split at h
    · rename_i hs; rw [cmpS_zero.1 hs, cmpL_zero h]
    · contradiction
theorem cmpL_neg : ∀ a b : List Bs, cmpL b a = - cmpL a b
  | [], [] => rfl
  | [], _ :: _ => rfl
  | _ :: _, [] => rfl
  | x :: r, y :: t => by
    unfold cmpL
    have := cmpS_neg x y
    by_cases h : cmpS x y = 0
    · rw [if_pos h, if_pos (by omega)]; exact cmpL_neg r t
    · rw [if_neg h, if_neg (by omega)]; exact this
theorem cmpL_trans : ∀ a b c : List Bs, cmpL a b ≤ 0 → cmpL b c ≤ 0 → cmpL a c ≤ 0
  | [], _, [], _, _ => by simp [cmpL]
  | [], _, _ :: _, _, _ => by simp [cmpL]
  | _ :: _, [], _, h, _ => by simp [cmpL] at h
  | _ :: _, _ :: _, [], _, h => by simp [cmpL] at h
  | x :: r, y :: t, z :: u, h1, h2 => by
    unfold cmpL at h1 h2 ⊢
    by_cases e1 : cmpS x y = 0
    · obtain rfl := cmpS_zero.1 e1
      rw [if_pos e1] at h1
      split at h2
      · rename_i e2; rw [if_pos e2]; exact cmpL_trans r t u h1 h2
      · rename_i e2; rw [if_neg e2]; exact h2
    · rw [if_neg e1] at h1
      by_cases e2 : cmpS y z = 0
      · obtain rfl := cmpS_zero.1 e2
        rw [if_neg e1]; exact h1
      · rw [if_neg e2] at h2
        have := cmpS_trans (show cmpS x y < 0 by omega) (show cmpS y z < 0 by omega)
        rw [if_neg (by omega)]; omega
theorem cmpL_prefix : ∀ a b : List Bs, a <+: b → cmpL a b ≤ 0
  | [], [], _ => by simp [cmpL]
  | [], _ :: _, _ => by simp [cmpL]
  | x :: r, b, h => by
    obtain ⟨t, rfl⟩ := h
    simp only [List.cons_append, cmpL, cmpS_self, if_true]
    exact cmpL_prefix r (r ++ t) ⟨t, rfl⟩

theorem cmpS_range (a b : Bs) : cmpS a b = -1 ∨ cmpS a b = 0 ∨ cmpS a b = 1 := by unfold cmpS; split; simp; split <;> simp
theorem cmpL_range : ∀ a b : List Bs, cmpL a b = -1 ∨ cmpL a b = 0 ∨ cmpL a b = 1
  | [], [] => by simp [cmpL]
  | [], _ :: _ => by simp [cmpL]
  | _ :: _, [] => by simp [cmpL]
  | x :: r, y :: t => by
    unfold cmpL
    split
    · exact cmpL_range r t
    · exact cmpS_range x y

/-- LabelOrder's law. -/
theorem order_law {a b c : Bs} (ha : Fit a) (hb : Fit b) (_hc : Fit c) :
    compare a b = - compare b a ∧ (compare a b = 0 ↔ a = b) ∧ (compare a b > 0 ∨ compare b c > 0 ∨ compare a c ≤ 0) ∧ (under b a = true → compare a b ≤ 0) := by
  refine ⟨?_, ?_, ?_, ?_⟩
  · unfold compare; exact cmpL_neg _ _
  · constructor
    · intro h
      have := cmpL_zero h
      have := List.reverse_inj.1 this
      rw [← ha.back, ← hb.back, this]
    · rintro rfl; exact cmpL_self _
  · by_cases h1 : compare a b > 0
    · exact .inl h1
    · by_cases h2 : compare b c > 0
      · exact .inr (.inl h2)
      · exact .inr (.inr (cmpL_trans _ (split b).reverse _ (by unfold compare at h1; omega) (by unfold compare at h2; omega)))
  · intro h
    unfold compare
    apply cmpL_prefix
    rw [List.reverse_prefix]
    simpa [under] using h
theorem cut_one : ∀ x : Bs, (46 : UInt8) ∉ x → cut x = [x]
  | [], _ => rfl
  | c :: s, h => by
    have h1 : ¬ c = 46 := fun e => h (by simp [e])
    have h2 := cut_one s (fun e => h (by simp [e]))
    simp [cut, h1, h2]
theorem cut_more : ∀ (x s : Bs), (46 : UInt8) ∉ x → cut (x ++ 46 :: s) = x :: cut s
  | [], s, _ => by simp [cut]
  | c :: x, s, h => by
    have h1 : ¬ c = 46 := fun e => h (by simp [e])
    have h2 := cut_more x s (fun e => h (by simp [e]))
    simp [cut, h1, h2]
theorem cut_flat : ∀ (r : List Bs), r ≠ [] → (∀ x ∈ r, (46 : UInt8) ∉ x) → cut (dropDot (r.flatMap (· ++ [46]))) = r
  | [], h, _ => absurd rfl h
  | [x], _, h => by
    have : dropDot ([x].flatMap (· ++ [46])) = x := by simp [dropDot]
    rw [this, cut_one x (h x (by simp))]
  | x :: y :: r, _, h => by
    have ih := cut_flat (y :: r) (by simp) (fun z hz => h z (by simp at hz ⊢; exact .inr hz))
    have hl : ((y :: r).flatMap (· ++ [46])).getLast? = some 46 := by
      obtain ⟨z, hz⟩ : ∃ z, (y :: r).getLast? = some z := by
        cases hg : (y :: r).getLast? with
        | none => simp at hg
        | some z => exact ⟨z, rfl⟩
      obtain ⟨l, hl⟩ := List.getLast?_eq_some_iff.1 hz
      rw [hl]; simp
    have hd := dropDot_last hl
    have : dropDot ((x :: y :: r).flatMap (· ++ [46])) = x ++ 46 :: dropDot ((y :: r).flatMap (· ++ [46])) := by
      rw [List.flatMap_cons]
      generalize (y :: r).flatMap (· ++ [46]) = t at *
      have e : dropDot (x ++ [46] ++ t) = x ++ 46 :: dropDot t := by
        conv => lhs; rw [← hd]
        generalize dropDot t = u
        have h2 : x ++ [46] ++ (u ++ [46]) = (x ++ 46 :: u) ++ [46] := by simp
        unfold dropDot
        rw [h2, if_pos List.getLast?_concat, List.dropLast_concat]
      exact e
    rw [this, cut_more x _ (h x (by simp)), ih]

theorem isLab_ne {x : Bs} (h : isLab x = true) : x ≠ [] := by
  rintro rfl; simp [isLab] at h
theorem isLab_len {x : Bs} (h : isLab x = true) : 1 ≤ x.length ∧ x.length ≤ 20 := by
  simp only [isLab, Bool.or_eq_true, Bool.and_eq_true, beq_iff_eq, decide_eq_true_eq] at h
  rcases h with rfl | h
  · decide
  · exact ⟨h.1.1.1, h.1.1.2⟩
theorem okc_dot : okc 46 = false := by decide
theorem isLab_nodot {x : Bs} (h : isLab x = true) : (46 : UInt8) ∉ x := by
  simp only [isLab, Bool.or_eq_true, Bool.and_eq_true, beq_iff_eq, decide_eq_true_eq] at h
  rcases h with rfl | h
  · decide
  · intro hm
    have := List.all_eq_true.1 h.2 46 hm
    rw [okc_dot] at this; contradiction
theorem labsOk_all : ∀ {l : List Bs}, labsOk l = true → ∀ x ∈ l, isLab x = true
  | [], _, x, h => by simp at h
  | y :: r, h, x, hx => by
    simp only [labsOk, Bool.and_eq_true, List.all_eq_true] at h
    rcases List.mem_cons.1 hx with rfl | hx
    · exact h.1
    · exact (h.2 x hx).1
theorem labsOk_tail : ∀ {x : Bs} {r : List Bs}, labsOk (x :: r) = true → labsOk r = true
  | _, [], _ => rfl
  | x, y :: r, h => by
    simp only [labsOk, List.all_cons, Bool.and_eq_true] at h ⊢
    exact ⟨h.2.1.1, h.2.2⟩
theorem labsOk_drop {l : List Bs} (h : labsOk l = true) : ∀ k, labsOk (l.drop k) = true := by
  intro k
  induction k generalizing l with
  | zero => exact h
  | succ k ih =>
    cases l with
    | nil => exact h
    | cons x r => exact ih (labsOk_tail h)

theorem split_join {r : List Bs} (h : labsOk r = true) : split (join r) = r := by
  have hl := labsOk_all h
  unfold join
  split
  · rename_i e; subst e; rfl
  · rename_i e
    unfold split
    rw [if_neg, cut_flat r e (fun x hx => isLab_nodot (hl x hx))]
    cases r with
    | nil => exact absurd rfl e
    | cons x r =>
      have hx := isLab_ne (hl x (by simp))
      cases x with
      | nil => exact absurd rfl hx
      | cons c x => simp

theorem join_len_drop (l : List Bs) : ∀ k, (l.drop k).flatMap (· ++ [46]) = l.flatMap (· ++ [46]) ∨ ((l.drop k).flatMap (· ++ [46])).length < (l.flatMap (· ++ [46])).length := by
  intro k
  induction k generalizing l with
  | zero => exact .inl rfl
  | succ k ih =>
    cases l with
    | nil => exact .inl rfl
    | cons x r =>
      right
      rcases ih r with h | h
      · rw [List.drop_succ_cons, h]; simp; omega
      · rw [List.drop_succ_cons]; simp at h ⊢; omega

theorem fit_suffix {n : Bs} (h : Fit n) (k : Nat) : Fit (join ((split n).drop k)) ∧ split (join ((split n).drop k)) = (split n).drop k := by
  have h1 := labsOk_drop h.labs k
  have h2 := split_join h1
  refine ⟨⟨?_, ?_, ?_, ?_⟩, h2⟩
  · have h3 := h.len
    have h4 := h.back
    unfold join at h4 ⊢
    split
    · decide
    · rename_i hne
      have hs : split n ≠ [] := by intro e; rw [e] at hne; simp at hne
      rw [if_neg hs] at h4
      rcases join_len_drop (split n) k with h5 | h5
      · rw [h5, h4]; exact h3
      · rw [h4] at h5; omega
  · rw [h2]; exact h1
  · rw [h2, List.length_drop]; have := h.many; omega
  · rw [h2]

theorem suffix_tail {x : Bs} {r m : List Bs} : m <:+ (x :: r) ↔ m = x :: r ∨ m <:+ r := List.suffix_cons_iff

/-- LabelAbove's law. -/
theorem above_law {n o : Bs} (hn : Fit n) (ho : Fit o) {x : Bs} {r : List Bs} (hs : split n = x :: r) :
    Fit (join r) ∧ under n (join r) = true ∧ (n = o ∨ under n o = under (join r) o) := by
  obtain ⟨f1, f2⟩ := fit_suffix hn 1
  rw [hs] at f1 f2
  simp only [List.drop_succ_cons, List.drop_zero] at f1 f2
  refine ⟨f1, ?_, ?_⟩
  · simp [under, f2, hs]
  · by_cases e : split o = x :: r
    · left; rw [← hn.back, ← ho.back, hs, e]
    · right
      unfold under
      rw [f2, hs, Bool.eq_iff_iff]
      simp only [List.isSuffixOf_iff_suffix]
      rw [suffix_tail]
      exact ⟨fun h => h.resolve_left e, .inr⟩
/-! Packing. -/
abbrev Known := List (Bs × Nat)
def find (kn : Known) (key : Bs) : Option Nat := (kn.find? (fun p => p.1 == key)).map (·.2)
def put (b : Bs) (kn : Known) : List Bs → Bs × Known
  | [] => (b ++ [0], kn)
  | x :: r => match find kn (join (x :: r)) with
    | some t => (b ++ [UInt8.ofNat (192 + t / 256), UInt8.ofNat (t % 256)], kn)
    | none => put (b ++ UInt8.ofNat x.length :: x) ((join (x :: r), min b.length 16383) :: kn) r
def packs (s : Bs × Known) : List Bs → Bs × Known
  | [] => s
  | n :: r => packs (put s.1 s.2 (split n)) r
def packB (l : List Bs) : Bs := (packs ([], []) l).1
/-- The first error among the names. -/
def firstErr : List Bs → Int
  | [] => 0
  | n :: r => if check n = 0 then firstErr r else check n
def packE (l : List Bs) : Int := if l.length > 256 then 2 else if firstErr l ≠ 0 then firstErr l else if (packB l).length > 4096 then 2 else 0

def plain : List Bs → Nat
  | [] => 1
  | x :: r => 1 + x.length + plain r

theorem put_len (l : List Bs) : ∀ (b : Bs) (kn : Known), b.length ≤ (put b kn l).1.length ∧ (put b kn l).1.length ≤ b.length + plain l := by
  induction l with
  | nil => intro b kn; simp [put, plain]
  | cons x r ih =>
    intro b kn
    unfold put
    split
    · simp [plain]
      have : 1 ≤ plain r := by cases r <;> simp [plain] <;> omega
      omega
    · have := ih (b ++ UInt8.ofNat x.length :: x) ((join (x :: r), min b.length 16383) :: kn)
      simp [plain] at this ⊢
      omega

theorem packs_len (l : List Bs) : ∀ s : Bs × Known, (packs s l).1.length ≤ s.1.length + (l.map fun n => plain (split n)).sum := by
  induction l with
  | nil => intro s; simp [packs]
  | cons n r ih =>
    intro s
    have h1 := ih (put s.1 s.2 (split n))
    have h2 := put_len (split n) s.1 s.2
    simp [packs] at h1 ⊢
    omega

theorem flat_pos {r : List Bs} (h : r ≠ []) : (join r).length = (r.map (fun x => x.length + 1)).sum := by
  unfold join
  rw [if_neg h, List.length_flatMap]
  simp

theorem find_none {kn : Known} {key : Bs} (h : ∀ p ∈ kn, key.length < p.1.length) : find kn key = none := by
  unfold find
  rw [Option.map_eq_none_iff, List.find?_eq_none]
  intro p hp e
  have := h p hp
  rw [beq_iff_eq.1 e] at this
  omega

theorem join_short {x : Bs} {r : List Bs} (hr : r ≠ []) : (join r).length < (join (x :: r)).length := by
  rw [flat_pos hr, flat_pos (by simp)]; simp

theorem put_fresh (l : List Bs) : ∀ (b : Bs) (kn : Known), (l ≠ [] → ∀ p ∈ kn, (join l).length < p.1.length) → (put b kn l).1.length = b.length + plain l := by
  induction l with
  | nil => intro b kn _; simp [put, plain]
  | cons x r ih =>
    intro b kn h
    unfold put
    rw [find_none (h (by simp))]
    simp only
    rw [ih]
    · simp [plain]; omega
    · intro hr p hp
      rcases List.mem_cons.1 hp with rfl | hp
      · exact join_short hr
      · exact Nat.lt_trans (join_short hr) (h (by simp) p hp)

/-- LabelShort's law. -/
theorem short_law (l : List Bs) : (packB l).length ≤ (l.map fun n => (packB [n]).length).sum := by
  have h := packs_len l ([], [])
  have e : ∀ n, (packB [n]).length = plain (split n) := fun n => by
    have := put_fresh (split n) [] [] (by simp)
    simpa [packB, packs] using this
  simp only [e]
  simpa [packB] using h

theorem plain_le {n : Bs} (h : Fit n) : plain (split n) ≤ 82 := by
  have h1 := h.len
  have h2 := h.back
  have : ∀ r : List Bs, plain r = (r.map (fun x => x.length + 1)).sum + 1 := by
    intro r
    induction r with
    | nil => rfl
    | cons x r ih => simp [plain, ih]; omega
  rw [this]
  by_cases e : split n = []
  · rw [e]; simp
  · have := flat_pos e
    rw [h2] at this
    omega

theorem packB_len (l : List Bs) (h : ∀ n ∈ l, Fit n) : (packB l).length ≤ 82 * l.length := by
  have h1 := packs_len l ([], [])
  have h2 : (l.map fun n => plain (split n)).sum ≤ 82 * l.length := by
    clear h1
    induction l with
    | nil => simp
    | cons n r ih =>
      have a := plain_le (h n (by simp))
      have b := ih (fun m hm => h m (by simp [hm]))
      simp; omega
  simp [packB] at h1 ⊢
  omega
theorem firstErr_ok {l : List Bs} : firstErr l = 0 ↔ ∀ n ∈ l, Fit n := by
  induction l with
  | nil => simp [firstErr]
  | cons n r ih =>
    unfold firstErr
    by_cases h : check n = 0
    · rw [if_pos h, ih]
      simp [check_fit.1 h]
    · rw [if_neg h]
      constructor
      · intro e; exact absurd e h
      · intro e; exact absurd (check_fit.2 (e n (by simp))) h
/-! Unpacking. -/
def byteAt (s : Bs) (i : Nat) : Nat := (s.getD i 0).toNat
/-- Read the labels at a place, by at most so many rounds. -/
def take (s : Bs) : Nat → Nat → List Bs → Int → Option (List Bs × Int)
  | 0, _, _, _ => none
  | f + 1, i, l, e =>
    if i ≥ s.length then none
    else if byteAt s i = 0 then some (l, max e (i + 1))
    else if byteAt s i < 64 ∧ i + 1 + byteAt s i ≤ s.length then take s f (i + 1 + byteAt s i) (l ++ [(s.drop (i + 1)).take (byteAt s i)]) e
    else if byteAt s i ≥ 192 ∧ i + 1 < s.length then
      if (byteAt s i - 192) * 256 + byteAt s (i + 1) ≥ i then none
      else take s f ((byteAt s i - 192) * 256 + byteAt s (i + 1)) l (if e < 0 then i + 2 else e)
    else none
/-- The names from a place on. -/
def names (s : Bs) : Nat → Nat → List Bs → Option (List Bs)
  | 0, i, out => if i < s.length then none else some out
  | f + 1, i, out => if i < s.length then match take s 20 i [] (-1) with
      | none => none
      | some (l, e) => names s f e.toNat (out ++ [join l])
    else some out

/-- From place i on lie the labels l, read in c rounds. -/
inductive Dec (s : Bs) : Nat → List Bs → Nat → Prop
  | stop {i : Nat} : i < s.length → byteAt s i = 0 → Dec s i [] 1
  | lab {i n : Nat} {x : Bs} {l : List Bs} {c : Nat} : i < s.length → byteAt s i = n → 0 < n → n < 64 → i + 1 + n ≤ s.length → x = (s.drop (i + 1)).take n → Dec s (i + 1 + n) l c → Dec s i (x :: l) (c + 1)
  | ptr {i t : Nat} {l : List Bs} {c : Nat} : i + 1 < s.length → byteAt s i ≥ 192 → t = (byteAt s i - 192) * 256 + byteAt s (i + 1) → t < i → Dec s t l c → Dec s i l (c + 1)

theorem byteAt_app {s u : Bs} {i : Nat} (h : i < s.length) : byteAt (s ++ u) i = byteAt s i := by
  unfold byteAt; simp [List.getD, List.getElem?_append_left h]
theorem cut_app {s u : Bs} {i n : Nat} (h : i + n ≤ s.length) : ((s ++ u).drop i).take n = (s.drop i).take n := by
  rw [List.drop_append_of_le_length (by omega), List.take_append_of_le_length (by simp; omega)]

theorem Dec.app {s : Bs} {i : Nat} {l : List Bs} {c : Nat} (h : Dec s i l c) (u : Bs) : Dec (s ++ u) i l c := by
  induction h with
  | stop h1 h2 => exact .stop (by simp; omega) (by rw [byteAt_app h1]; exact h2)
  | lab h1 h2 h3 h4 h5 h6 _ ih => exact .lab (by simp; omega) (by rw [byteAt_app h1]; exact h2) h3 h4 (by simp; omega) (by rw [cut_app (by omega)]; exact h6) ih
  | ptr h1 h2 h3 h4 _ ih => exact .ptr (by simp; omega) (by rw [byteAt_app (by omega)]; exact h2) (by rw [byteAt_app (by omega), byteAt_app (by omega)]; exact h3) h4 ih

/-- Behind a pointer: the end is known. -/
theorem take_known {s : Bs} {i : Nat} {l : List Bs} {c : Nat} (h : Dec s i l c) (u : Bs) : ∀ (f : Nat) (acc : List Bs) (e : Int), c ≤ f → (s.length : Int) ≤ e → take (s ++ u) f i acc e = some (acc ++ l, e) := by
  induction h with
  | stop h1 h2 =>
    intro f acc e hf he
    obtain ⟨f, rfl⟩ : ∃ g, f = g + 1 := ⟨f - 1, by omega⟩
    unfold take
    rw [if_neg (by simp; omega), byteAt_app h1, if_pos h2]
    simp; omega
  | lab h1 h2 h3 h4 h5 h6 _ ih =>
    intro f acc e hf he
    obtain ⟨f, rfl⟩ : ∃ g, f = g + 1 := ⟨f - 1, by omega⟩
    unfold take
    rw [if_neg (by simp; omega), byteAt_app h1, h2, if_neg (by omega), if_pos ⟨h4, by simp; omega⟩, ih f _ e (by omega) he, cut_app (by omega), ← h6]
    simp
  | ptr h1 h2 h3 h4 _ ih =>
    intro f acc e hf he
    obtain ⟨f, rfl⟩ : ∃ g, f = g + 1 := ⟨f - 1, by omega⟩
    unfold take
    rw [if_neg (by simp; omega), byteAt_app (by omega), byteAt_app (by omega), if_neg (by omega), if_neg (by omega), if_pos ⟨h2, by simp; omega⟩, ← h3, if_neg (by omega), if_neg (by omega)]
    exact ih f acc e (by omega) he

/-- In line: place i .. e of s hold the labels l, by a pointer into the first B bytes perhaps. -/
inductive Line (s : Bs) : Nat → List Bs → Nat → Nat → Prop
  | stop {i : Nat} : i < s.length → byteAt s i = 0 → Line s i [] 1 (i + 1)
  | lab {i n e : Nat} {x : Bs} {l : List Bs} {c : Nat} : i < s.length → byteAt s i = n → 0 < n → n < 64 → i + 1 + n ≤ s.length → x = (s.drop (i + 1)).take n → Line s (i + 1 + n) l c e → Line s i (x :: l) (c + 1) e
  | ptr {i t B : Nat} {l : List Bs} {c : Nat} : i + 1 < s.length → byteAt s i ≥ 192 → t = (byteAt s i - 192) * 256 + byteAt s (i + 1) → t < i → B ≤ i → Dec (s.take B) t l c → Line s i l (c + 1) (i + 2)

theorem Line.dec {s : Bs} {i : Nat} {l : List Bs} {c e : Nat} (h : Line s i l c e) : Dec s i l c := by
  induction h with
  | stop h1 h2 => exact .stop h1 h2
  | lab h1 h2 h3 h4 h5 h6 _ ih => exact .lab h1 h2 h3 h4 h5 h6 ih
  | @ptr i t B l c h1 h2 h3 h4 h5 h6 => exact .ptr h1 h2 h3 h4 (by have := h6.app (s.drop B); rwa [List.take_append_drop] at this)
theorem Line.app {s : Bs} {i : Nat} {l : List Bs} {c e : Nat} (h : Line s i l c e) (u : Bs) : Line (s ++ u) i l c e := by
  induction h with
  | stop h1 h2 => exact .stop (by simp; omega) (by rw [byteAt_app h1]; exact h2)
  | lab h1 h2 h3 h4 h5 h6 _ ih => exact .lab (by simp; omega) (by rw [byteAt_app h1]; exact h2) h3 h4 (by simp; omega) (by rw [cut_app (by omega)]; exact h6) ih
  | ptr h1 h2 h3 h4 h5 h6 => exact .ptr (by simp; omega) (by rw [byteAt_app (by omega)]; exact h2) (by rw [byteAt_app (by omega), byteAt_app (by omega)]; exact h3) h4 h5 (by rw [List.take_append_of_le_length (by omega)]; exact h6)
theorem Line.le {s : Bs} {i : Nat} {l : List Bs} {c e : Nat} (h : Line s i l c e) : i < e ∧ e ≤ s.length := by
  induction h with
  | stop h1 h2 => omega
  | lab h1 h2 h3 h4 h5 h6 _ ih => omega
  | ptr h1 h2 h3 h4 h5 h6 => omega

theorem Line.take {s : Bs} {i : Nat} {l : List Bs} {c e : Nat} (h : Line s i l c e) : ∀ (f : Nat) (acc : List Bs), c ≤ f → Lb.take s f i acc (-1) = some (acc ++ l, (e : Int)) := by
  induction h with
  | stop h1 h2 =>
    intro f acc hf
    obtain ⟨f, rfl⟩ : ∃ g, f = g + 1 := ⟨f - 1, by omega⟩
    unfold Lb.take
    rw [if_neg (by omega), if_pos h2]
    simp; omega
  | lab h1 h2 h3 h4 h5 h6 _ ih =>
    intro f acc hf
    obtain ⟨f, rfl⟩ : ∃ g, f = g + 1 := ⟨f - 1, by omega⟩
    unfold Lb.take
    rw [if_neg (by omega), h2, if_neg (by omega), if_pos ⟨h4, by omega⟩, ih f _ (by omega), ← h6]
    simp
  | @ptr i t B l c h1 h2 h3 h4 h5 h6 =>
    intro f acc hf
    obtain ⟨f, rfl⟩ : ∃ g, f = g + 1 := ⟨f - 1, by omega⟩
    unfold Lb.take
    rw [if_neg (by omega), if_neg (by omega), if_neg (by omega), if_pos ⟨h2, by omega⟩, ← h3, if_neg (by omega), if_pos (by omega)]
    have := take_known h6 (s.drop B) f acc ((i : Int) + 2) (by omega) (by simp; omega)
    rw [List.take_append_drop] at this
    exact this

/-- What the known names are good for. -/
def Good (b : Bs) (kn : Known) : Prop := ∀ p ∈ kn, ∃ l c, l ≠ [] ∧ labsOk l = true ∧ p.1 = join l ∧ p.2 < b.length ∧ p.2 ≤ 16383 ∧ c ≤ 2 * l.length ∧ Dec b p.2 l c

theorem Good.app {b : Bs} {kn : Known} (h : Good b kn) (u : Bs) : Good (b ++ u) kn := by
  intro p hp
  obtain ⟨l, c, h1, h2, h3, h4, h5, hc, h6⟩ := h p hp
  exact ⟨l, c, h1, h2, h3, by simp; omega, h5, hc, h6.app u⟩

theorem find_some {kn : Known} {key : Bs} {t : Nat} (h : find kn key = some t) : (key, t) ∈ kn := by
  unfold find at h
  rw [Option.map_eq_some_iff] at h
  obtain ⟨⟨k, t'⟩, h1, h2⟩ := h
  have := List.find?_some h1
  simp at this h2
  subst this h2
  exact List.mem_of_find?_eq_some h1
theorem find_app {kn pend : Known} {key : Bs} (h : ∀ p ∈ pend, key.length < p.1.length) : find (pend ++ kn) key = find kn key := by
  unfold find
  rw [List.find?_append]
  have : pend.find? (fun p => p.1 == key) = none := by
    rw [List.find?_eq_none]
    intro p hp e
    have := h p hp
    rw [beq_iff_eq.1 e] at this
    omega
  rw [this]; rfl

theorem u8 {n : Nat} (h : n < 256) : (UInt8.ofNat n).toNat = n := by simp; omega
theorem Dec.more {s : Bs} {i : Nat} {l : List Bs} {c : Nat} (h : Dec s i l c) : 1 ≤ c := by cases h <;> omega

/-- One name laid down. -/
theorem put_law (l : List Bs) : ∀ (b : Bs) (pend kn : Known), labsOk l = true → b.length + plain l ≤ 16383 → Good b kn → (∀ p ∈ pend, l ≠ [] → (join l).length < p.1.length) →
    ∃ u new c, put b (pend ++ kn) l = (b ++ u, new ++ (pend ++ kn)) ∧ c ≤ 2 * l.length + 1 ∧ Line (b ++ u) b.length l c (b.length + u.length) ∧ Good (b ++ u) new := by
  induction l with
  | nil =>
    intro b pend kn _ _ hg _
    refine ⟨[0], [], 1, by simp [put], by simp, ?_, by intro p hp; simp at hp⟩
    exact Line.stop (by simp) (by simp [byteAt])
  | cons x r ih =>
    intro b pend kn hl hb hg hp
    unfold put
    rw [find_app (fun p hp' => hp p hp' (by simp))]
    have hx : isLab x = true := labsOk_all hl x (by simp)
    have hxl := isLab_len hx
    cases hf : find kn (join (x :: r)) with
    | some t =>
      simp only
      obtain ⟨l', c, h1, h2, h3, h4, h5, hc, h6⟩ := hg _ (find_some hf)
      have : l' = x :: r := by rw [← split_join hl, ← split_join h2]; exact congrArg split h3.symm
      subst this
      refine ⟨_, [], c + 1, by simp; rfl, by omega, ?_, by intro p hp; simp at hp⟩
      have e1 : byteAt (b ++ [UInt8.ofNat (192 + t / 256), UInt8.ofNat (t % 256)]) b.length = 192 + t / 256 := by
        unfold byteAt; rw [List.getD_eq_getElem?_getD, List.getElem?_append_right (by omega)]
        simp only [Nat.sub_self, List.getElem?_cons_zero, Option.getD_some]
        exact u8 (by simp at h5; omega)
      have e2 : byteAt (b ++ [UInt8.ofNat (192 + t / 256), UInt8.ofNat (t % 256)]) (b.length + 1) = t % 256 := by
        unfold byteAt; rw [List.getD_eq_getElem?_getD, List.getElem?_append_right (by omega)]
        simp only [Nat.add_sub_cancel_left, List.getElem?_cons_succ, List.getElem?_cons_zero, Option.getD_some]
        exact u8 (by omega)
      have e3 : (b ++ [UInt8.ofNat (192 + t / 256), UInt8.ofNat (t % 256)]).take b.length = b := by simp
      have := @Line.ptr (b ++ [UInt8.ofNat (192 + t / 256), UInt8.ofNat (t % 256)]) b.length t b.length (x :: r) c (by simp) (by rw [e1]; omega) (by rw [e1, e2]; omega) h4 (Nat.le_refl _) (by rw [e3]; exact h6)
      simpa using this
    | none =>
      simp only
      have hpl : 1 ≤ plain r := by cases r <;> simp [plain] <;> omega
      simp only [plain] at hb
      have hmin : min b.length 16383 = b.length := by omega
      rw [hmin]
      obtain ⟨u, new, c, e1, e2, e3, e4⟩ := ih (b ++ UInt8.ofNat x.length :: x) ((join (x :: r), b.length) :: pend) kn (labsOk_tail hl) (by simp; omega) (hg.app _) (by
        intro p hp' hr
        rcases List.mem_cons.1 hp' with rfl | hp'
        · exact join_short hr
        · exact Nat.lt_trans (join_short hr) (hp p hp' (by simp)))
      rw [List.cons_append] at e1
      rw [e1]
      have hb2 : b ++ UInt8.ofNat x.length :: x ++ u = b ++ (UInt8.ofNat x.length :: x ++ u) := by simp
      have f1 : byteAt (b ++ (UInt8.ofNat x.length :: x ++ u)) b.length = x.length := by
        unfold byteAt; rw [List.getD_eq_getElem?_getD, List.getElem?_append_right (by omega)]
        simp only [Nat.sub_self, List.cons_append, List.getElem?_cons_zero, Option.getD_some]
        exact u8 (by omega)
      have f2 : x = ((b ++ (UInt8.ofNat x.length :: x ++ u)).drop (b.length + 1)).take x.length := by
        rw [← List.drop_drop]
        simp
      rw [hb2] at e3 e4 ⊢
      have key : Line (b ++ (UInt8.ofNat x.length :: x ++ u)) b.length (x :: r) (c + 1) (b.length + (UInt8.ofNat x.length :: x ++ u).length) := by
        refine Line.lab (n := x.length) (by simp) f1 (by omega) (by omega) (by simp; omega) f2 ?_
        have : (b ++ UInt8.ofNat x.length :: x).length = b.length + 1 + x.length := by simp; omega
        rw [this] at e3
        have : b.length + 1 + x.length + u.length = b.length + (UInt8.ofNat x.length :: x ++ u).length := by simp; omega
        rw [this] at e3
        exact e3
      refine ⟨_, new ++ [(join (x :: r), b.length)], c + 1, by simp, by simp; omega, key, ?_⟩
      intro p hp'
      rcases List.mem_append.1 hp' with hp' | hp'
      · exact e4 p hp'
      · simp at hp'
        subst hp'
        exact ⟨x :: r, c + 1, by simp, hl, rfl, by simp, by simp; omega, by simp; omega, key.dec⟩

theorem Good.join {b : Bs} {k1 k2 : Known} (h1 : Good b k1) (h2 : Good b k2) : Good b (k1 ++ k2) := by
  intro p hp
  rcases List.mem_append.1 hp with h | h
  · exact h1 p h
  · exact h2 p h

theorem names_end (s : Bs) (f : Nat) (out : List Bs) : names s f s.length out = some out := by
  cases f <;> simp [names]

theorem packs_law (l : List Bs) : ∀ (b : Bs) (kn : Known), (∀ n ∈ l, Fit n) → b.length + 82 * l.length ≤ 16383 → Good b kn →
    ∃ u kn', packs (b, kn) l = (b ++ u, kn') ∧ ∀ f out, l.length ≤ f → names (b ++ u) f b.length out = some (out ++ l) := by
  induction l with
  | nil =>
    intro b kn _ _ _
    refine ⟨[], kn, by simp [packs], ?_⟩
    intro f out _
    simpa using names_end b f out
  | cons n r ih =>
    intro b kn hl hb hg
    have hn := hl n (by simp)
    have hpl := plain_le hn
    simp only [List.length_cons] at hb
    obtain ⟨u1, new, c, e1, e2, e3, e4⟩ := put_law (split n) b [] kn hn.labs (by omega) hg (by intro p hp; simp at hp)
    have hlen := (put_len (split n) b kn).2
    simp only [List.nil_append] at e1
    rw [e1] at hlen
    simp only at hlen
    obtain ⟨u2, kn2, g1, g2⟩ := ih (b ++ u1) (new ++ kn) (fun m hm => hl m (by simp [hm])) (by omega) (e4.join (hg.app u1))
    refine ⟨u1 ++ u2, kn2, ?_, ?_⟩
    · simp only [packs]
      rw [e1, g1, List.append_assoc]
    · intro f out hf
      simp only [List.length_cons] at hf
      obtain ⟨f, rfl⟩ : ∃ g, f = g + 1 := ⟨f - 1, by omega⟩
      have h1 := e3.app u2
      have h2 := h1.le
      have h3 := h1.take 20 [] (by have := hn.many; omega)
      rw [List.append_assoc] at h2 h3
      unfold names
      rw [if_pos (by omega), h3]
      simp only [List.nil_append]
      have h4 := g2 f (out ++ [n]) (by omega)
      rw [List.append_assoc, List.length_append] at h4
      rw [hn.back, Int.toNat_natCast, h4, List.append_assoc]
      rfl

/-- LabelBack's law: what was packed is read again as it was. -/
theorem back_law (l : List Bs) (h : ∀ n ∈ l, Fit n) (hl : l.length ≤ 199) (f : Nat) (hf : l.length ≤ f) : names (packB l) f 0 [] = some l := by
  obtain ⟨u, kn, h1, h2⟩ := packs_law l [] [] h (by simp; omega) (by intro p hp; simp at hp)
  have := h2 f [] hf
  simp only [List.nil_append, List.length_nil] at this
  unfold packB
  rw [h1]
  simpa using this

end Go.Proofs.YtajllcbjgndcpaaGreatDoor.Lb
