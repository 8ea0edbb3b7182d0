/- WALK: Pack. -/
import Derived.Test.YtajllcbjgndcpaaDoorW10
namespace Go.Proofs.YtajllcbjgndcpaaDoor
open Go.RowKit Go.Maps

theorem packs_snoc (s : Lb.Bs × Lb.Known) (l : List Lb.Bs) (x : Lb.Bs) : Lb.packs s (l ++ [x]) = Lb.put (Lb.packs s l).1 (Lb.packs s l).2 (Lb.split x) := by
  induction l generalizing s with
  | nil => rfl
  | cons y r ih => simp only [List.cons_append, Lb.packs]; exact ih _
theorem firstErr_snoc (l : List Lb.Bs) (x : Lb.Bs) (h : Lb.firstErr l = 0) : Lb.firstErr (l ++ [x]) = Lb.check x := by
  induction l with
  | nil => simp only [List.nil_append, Lb.firstErr]; split <;> simp_all
  | cons y r ih =>
    unfold Lb.firstErr at h
    simp only [List.cons_append]
    unfold Lb.firstErr
    by_cases hy : Lb.check y = 0
    · rw [if_pos hy] at h ⊢
      exact ih h
    · rw [if_neg hy] at h; exact absurd h hy
theorem firstErr_pre (l m : List Lb.Bs) (h : Lb.firstErr l ≠ 0) : Lb.firstErr (l ++ m) = Lb.firstErr l := by
  induction l with
  | nil => simp [Lb.firstErr] at h
  | cons y r ih =>
    simp only [List.cons_append]
    unfold Lb.firstErr at h ⊢
    by_cases hy : Lb.check y = 0
    · rw [if_pos hy] at h ⊢
      rw [if_pos hy]
      exact ih h
    · rw [if_neg hy, if_neg hy]

set_option maxHeartbeats 800000 in
theorem pack_many (v : Value) (l : List Lb.Bs) (w : World) (h : Strs w v l) (hl : 256 < l.length) :
    Calls Tryd.prog 10 #[v] w fun e w' => e = .returned (.tuple #[.string ⟨#[]⟩, .int .i64 2]) ∧ w' = w := by
  obtain ⟨a, cap, rfl, hcap, hm, hcell⟩ := h
  clear hcell
  unfold maxLen at hm
  go_enter Tryd.func10, Tryd.ntmps10
  go_wp2
  go_ret2
  exact ⟨rfl, rfl⟩

/-- What Pack answers beside the error. -/
def packS (l : List Lb.Bs) : Lb.Bs := if Lb.packE l = 0 then Lb.packB l else []
theorem pack_fin {l : List Lb.Bs} {c : Int} {s : Lb.Bs} (hc : c = Lb.packE l) (hs : s = packS l) : Ending.returned (.tuple #[.string ⟨s.toArray⟩, .int .i64 c]) = .returned (.tuple #[.string ⟨(packS l).toArray⟩, .int .i64 (Lb.packE l)]) := by rw [hc, hs]
theorem packE_bad {l : List Lb.Bs} {k : Nat} {x : Lb.Bs} (hl : l.length ≤ 256) (h : Lb.firstErr (l.take k) = 0) (hx : l[k]? = some x) (hc : ¬ Lb.check x = 0) : Lb.check x = Lb.packE l := by
  have e : l = (l.take k ++ [x]) ++ l.drop (k + 1) := by
    rw [List.append_assoc, List.singleton_append, ← drop_at hx, List.take_append_drop]
  have h1 := firstErr_snoc (l.take k) x h
  have h2 := firstErr_pre (l.take k ++ [x]) (l.drop (k + 1)) (by rw [h1]; exact hc)
  rw [← e, h1] at h2
  unfold Lb.packE
  rw [if_neg (by omega), if_pos (by rw [h2]; exact hc), h2]
theorem packS_bad {l : List Lb.Bs} (h : ¬ Lb.packE l = 0) : [] = packS l := by unfold packS; rw [if_neg h]
theorem take_snoc' {l : List Lb.Bs} {k : Nat} {x : Lb.Bs} (hx : l[k]? = some x) : l.take (k + 1) = l.take k ++ [x] := by
  rw [List.take_add_one, hx]; rfl
theorem packs_bound {l : List Lb.Bs} (k : Nat) (h : Lb.firstErr (l.take k) = 0) (hl : l.length ≤ 256) : (Lb.packs ([], []) (l.take k)).1.length ≤ 20992 := by
  have h1 := Lb.packB_len (l.take k) (Lb.firstErr_ok.1 h)
  have h2 : (l.take k).length ≤ 256 := by rw [List.length_take]; omega
  unfold Lb.packB at h1
  omega
theorem put_known (r : List Lb.Bs) : ∀ (b : Lb.Bs) (kn : Lb.Known), (Lb.put b kn r).2.length ≤ kn.length + r.length := by
  induction r with
  | nil => intro b kn; simp [Lb.put]
  | cons x r ih =>
    intro b kn
    unfold Lb.put
    split
    · simp
    · have := ih (b ++ UInt8.ofNat x.length :: x) ((Lb.join (x :: r), min b.length 16383) :: kn)
      simp at this ⊢; omega

/-- What the loop of Pack carries. -/
def PackInv (w0 : World) (pb mb : Nat) (l : List Lb.Bs) (k : Nat) (v0 : Value) (wr : World) : Prop :=
  Lb.firstErr (l.take k) = 0 ∧ (∃ v, Pk w0.heap.size pb wr v mb (Lb.packs ([], []) (l.take k)).1 (Lb.packs ([], []) (l.take k)).2) ∧ Strs wr v0 l ∧ Below w0.heap.size w0 wr ∧ (Lb.packs ([], []) (l.take k)).2.length ≤ 8 * k

theorem strOfNums_bytes (b : Lb.Bs) : strOfNums (b.map fun c => (c.toNat : Int)) = ⟨b.toArray⟩ := by
  unfold strOfNums
  rw [List.map_map]
  have : (b.map ((fun n : Int => UInt8.ofNat n.toNat) ∘ fun c => (c.toNat : Int))) = b := (List.map_congr_left fun c _ => by simp).trans (List.map_id b)
  rw [this]
theorem bytes_out {w : World} {B : Nat} {v : Value} {b : Lb.Bs} (h : w.ownsRow B 5 1 v b.length (bytesV b)) : (convert 59 9 v).run Tryd.prog w = .ok (.string ⟨b.toArray⟩) w := by
  rcases h.2 with ⟨rfl, hb⟩ | ⟨g, cap, cur, rfl, _, _⟩
  · have : b = [] := List.eq_nil_of_length_eq_zero hb
    subst this
    exact run_convert_bytes_nil w 59 5 Tryd.underlying59 Tryd.underlying5 0 0 9 Tryd.underlying9
  · have hc := h.cells (g := g) rfl
    rw [run_convert_bytes_arg w 59 5 Tryd.underlying59 Tryd.underlying5 g 0 b.length cap (b.map fun c => (c.toNat : Int)) (by simp) (fun i hi => by
      have := hc i (.int .u8 ((b[i]'hi).toNat : Int)) (by simp [bytesV, hi])
      rw [add_at] at this
      rw [this]
      simp [List.getD, hi]) 9 Tryd.underlying9]
    rw [strOfNums_bytes]

theorem pack_start (w : World) (l : List Lb.Bs) (v : Value) (h : Strs w v l) : PackInv w (w.heap.size + 1) w.heap.size l 0 v ((w.alloc (.map #[] 0)).alloc (.cells #[.slice none 0 0, .map (some w.heap.size)] 61)) := by
  have hB : Below w.heap.size w ((w.alloc (.map #[] 0)).alloc (.cells #[.slice none 0 0, .map (some w.heap.size)] 61)) := ((Below.refl _ w).alloc (Nat.le_refl _) _).alloc (by simp) _
  refine ⟨rfl, ⟨.slice none 0 0, ⟨by omega, Nat.le_refl _, ?_, World.ownsRow_nil _ _ _ _, (World.ownsMap_made w _ _ _).alloc _, by intro p hp; simp [Lb.packs] at hp⟩⟩, h.later hB, hB, by simp [Lb.packs]⟩
  have := heap_alloc_new (w.alloc (.map #[] 0)) (.cells #[.slice none 0 0, .map (some w.heap.size)] 61)
  simpa using this

set_option maxHeartbeats 1600000 in
set_option maxRecDepth 100000 in
theorem pack_run (v : Value) (l : List Lb.Bs) (w : World) (henv : Env w) (h : Strs w v l) (hl : l.length ≤ 256) :
    Calls Tryd.prog 10 #[v] w fun e w' => e = .returned (.tuple #[.string ⟨(packS l).toArray⟩, .int .i64 (Lb.packE l)]) ∧ Below w.heap.size w w' := by
  have hmm := @run_makeMap Tryd.prog
  obtain ⟨a, cap, rfl, hcap, hm, hcell⟩ := id h
  clear hcell
  unfold maxLen at hm
  have HS0 := Lib.hid h
  go_enter Tryd.func10, Tryd.ntmps10
  go_wp2
  go_loopw [17] (fun i wr => ∃ k : Nat, k ≤ l.length ∧ i = .int .i64 k ∧ PackInv w (w.heap.size + 1) w.heap.size l k (.slice a l.length cap) wr) (fun i _ => l.length - (intOf i).toNat)
  case atStart => exact ⟨0, Nat.zero_le _, rfl, pack_start w l _ h⟩
  case round =>
    obtain ⟨k, hk, rfl, hinv⟩ := hrel
    obtain ⟨hfe, ⟨v1, hP⟩, hS, hB, hkn⟩ := hinv
    have Hfe := Lib.hid hfe
    clear hfe h
    have henv2 := henv.later hB
    by_cases hlt : k < l.length
    · obtain ⟨b, o, rfl, hb, hc⟩ := strs_cells hS (by intro e; rw [e] at hlt; simp at hlt)
      obtain ⟨x, hx⟩ : ∃ x, l[k]? = some x := ⟨l[k], List.getElem?_eq_getElem hlt⟩
      have hcx := hc k x hx
      have Hx := Lib.hid hx
      clear hx hc
      by_cases hfit : Lb.check x = 0
      · have hF := Lb.check_fit.1 hfit
        have HL := Lib.hid (labels_fit ⟨x.toArray⟩ wr henv2 hF)
        have HF := Lib.hid hF
        clear hfit hF
        go_wp2_with fail
        refine HL.out.mono ?_
        rintro e w2 ⟨vl, rfl, hO, hB2⟩
        have hP2 := hP.later hB2
        have hS2 := hS.later hB2
        have hBw2 := hB.trans (hB2.mono hB.size)
        have hO2 := hO.mono hB.size
        have hlabs : ∀ y ∈ Lb.split x, 1 ≤ List.length y ∧ List.length y ≤ 20 := fun y hy => Lb.isLab_len (Lb.labsOk_all HF.out.labs y hy)
        have hjoin : (Lb.join (Lb.split x)).length ≤ 1000 := by rw [HF.out.back]; have := HF.out.len; omega
        have hpb := packs_bound k Hfe.out hl
        have hpl := Lb.plain_le HF.out
        have hmany := HF.out.many
        have Hlabs := Lib.hid hlabs
        clear hlabs hP hS hO hB2
        go_wp2_with fail
        refine (put_any w.heap.size (w.heap.size + 1) w.heap.size w2 v1 _ _ vl (Lb.split x) hP2 hO2 Hlabs.out hjoin (by omega) (by omega) hBw2.size).mono ?_
        rintro e w3 ⟨rfl, ⟨v3, hP3⟩, hB3⟩
        have hinv : PackInv w (w.heap.size + 1) w.heap.size l (k + 1) (.slice (some ⟨b, o, none⟩) l.length cap) w3 := by
          have hBw3 := hBw2.trans hB3
          refine ⟨?_, ⟨v3, ?_⟩, HS0.out.later hBw3, hBw3, ?_⟩
          · rw [take_snoc' Hx.out, firstErr_snoc _ _ Hfe.out]; exact Lb.check_fit.2 HF.out
          · rw [take_snoc' Hx.out, packs_snoc]; exact hP3
          · rw [take_snoc' Hx.out, packs_snoc]
            have := put_known (Lb.split x) (Lb.packs ([], []) (l.take k)).1 (Lb.packs ([], []) (l.take k)).2
            omega
        clear hP3 hB3
        go_wp2
        exact ⟨⟨k + 1, by omega, by go_num, hinv⟩, by simp [intOf]; omega⟩
      · have HL := Lib.hid (labels_bad ⟨x.toArray⟩ wr henv2 hfit)
        have hbad : (Lb.check x == 0) = false := beq_eq_false_iff_ne.2 hfit
        go_wp2_with fail
        refine HL.out.mono ?_
        rintro e w2 ⟨rfl, hB2⟩
        have hcode := packE_bad hl Hfe.out Hx.out hfit
        have Hcode := Lib.hid hcode
        clear hcode
        go_wp2
        go_ret2
        exact ⟨pack_fin Hcode.out (packS_bad (by rw [← Hcode.out]; exact hfit)), hB.trans (hB2.mono hB.size)⟩
    · have hke : k = l.length := by omega
      have hfe := Hfe.out
      rw [hke, List.take_length] at hP hfe
      have hpb := packs_bound (l := l) l.length (by rw [List.take_length]; exact hfe) hl
      rw [List.take_length] at hpb
      have hbytes : (Lb.packs ([], []) l).1 = Lb.packB l := rfl
      rw [hbytes] at hP hpb
      obtain ⟨av, capv, rfl⟩ := ownsRow_val hP.row
      have c0 := hP.c0
      have hcv := bytes_out hP.row
      have hE : Lb.packE l = if (Lb.packB l).length > 4096 then 2 else 0 := by
        unfold Lb.packE; rw [if_neg (by omega), if_neg (by rw [hfe]; simp)]
      have HE := Lib.hid hE
      clear hE hbytes hfe hke
      by_cases hbig : (Lb.packB l).length > 4096
      · go_wp2
        go_ret2
        have hc : 2 = Lb.packE l := by rw [HE.out, if_pos hbig]
        exact ⟨pack_fin hc (packS_bad (by rw [← hc]; decide)), hB⟩
      · go_wp2
        go_ret2
        have hc : 0 = Lb.packE l := by rw [HE.out, if_neg hbig]
        exact ⟨pack_fin hc (by unfold packS; rw [if_pos hc.symm]), hB⟩
end Go.Proofs.YtajllcbjgndcpaaDoor
