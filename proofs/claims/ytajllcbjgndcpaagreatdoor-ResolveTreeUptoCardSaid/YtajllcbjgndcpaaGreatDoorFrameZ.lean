/- THE FRAME's WORDS for zones: the world of the witness, what its variables give, zones that came in, and how long their texts may be. -/
import Derived.Test.YtajllcbjgndcpaaGreatDoorFrame
import Derived.Test.YtajllcbjgndcpaaGreatDoorZ7
import Derived.Deep.Slices
import Derived.Deep.DeepWitnessRowRef
import Derived.Stop.LaidErr
namespace Go.Proofs.YtajllcbjgndcpaaGreatDoor
open Go.ChangeShapes Go.WideShapes Go.ChangeAt Go.RowKit Go.Deep

/-! The variables. -/
def litV : DataW Unit → Value
  | .lit (.int k n) => .int k n
  | .lit (.string s) => .string ⟨s.toArray⟩
  | _ => undef
def rowV : DataW Unit → Array Value
  | .agg ps => (ps.map litV).toArray
  | _ => #[]
def synS : ByteArray := ⟨#[105, 110, 118, 97, 108, 105, 100, 32, 115, 121, 110, 116, 97, 120]⟩
def rngS : ByteArray := ⟨#[118, 97, 108, 117, 101, 32, 111, 117, 116, 32, 111, 102, 32, 114, 97, 110, 103, 101]⟩
noncomputable def lowZ : Nat := (World.holding Tryz.prog default ⟨#[], #[], []⟩).heap.size
def atBlock (g : Nat) (cs : Array Value) (h : Array Obj) : Array Obj := h.modify g (withCells cs)
/-- The settled world with two texts of errors behind it, and the variables as their initialisers lay them. -/
noncomputable def laidWorldZ (os : Os) : World :=
  let w0 := World.holding Tryz.prog os ⟨#[.cells #[.string synS] 229, .cells #[.string rngS] 229], #[], []⟩
  { w0 with heap := atBlock 5 firstCells (atBlock 6 acceptCells (atBlock 1 (rowV Rows.laid_internal_strconv_uint64pow10)
      (atBlock 7 (rowV Rows.laid_math_bits_deBruijn32tab) (atBlock 8 (rowV Rows.laid_math_bits_deBruijn64tab) (atBlock 0 (rowV Rows.laid_patchbay_zone_kinds)
      (atBlock 3 #[.iface 227 (.pointer (some ⟨lowZ, 0, none⟩))] (atBlock 4 #[.iface 227 (.pointer (some ⟨lowZ + 1, 0, none⟩))] w0.heap))))))) }
theorem starName : "*" ++ "errors.errorString" = "*errors.errorString" := by decide
theorem errorRow (u : TypeId) (h : Tryz.prog.typeName? 3 u = some "*errors.errorString") : u = 227 :=
  typeName_ptr_named (nm := "errors.errorString") (by rw [starName]; kernel_rfl) (by kernel_rfl) (by decide) u (by rw [starName]; exact h)
/-- What the rows' lists give. -/
theorem envZ_of {W : World} (hsh : W.ShapedOpen Tryz.prog) {a b c : String × DataW Unit} {r : List (String × DataW Unit)}
    (h : laidMet Tryz.prog (a :: b :: ("internal/strconv.uint64pow10", Rows.laid_internal_strconv_uint64pow10) :: c :: ("strconv.ErrRange", Rows.laid_strconv_ErrRange) :: ("strconv.ErrSyntax", Rows.laid_strconv_ErrSyntax) :: r) W) : EnvZ W := by
  have ht := h.tail.tail
  have h5 := ht.tail.tail
  have h6 := h5.tail
  refine ⟨env_of W hsh, ?_, ?_, ?_⟩
  · exact Lib.tabIs_of_head (g := 1) (t := 210) (e := 194) (rest := c :: ("strconv.ErrRange", Rows.laid_strconv_ErrRange) :: ("strconv.ErrSyntax", Rows.laid_strconv_ErrSyntax) :: r) (by kernel_rfl) (by kernel_rfl) Tryz.underlying210 Tryz.underlying194 (by kernel_rfl) (by kernel_rfl) ht
  · obtain ⟨a0, s0, hv, -⟩ := laid_sentinel (g := 3) (tp := 227) (te := 229) (ts := 9) (ti := 84) h6 (by kernel_rfl) (by kernel_rfl) Tryz.underlying84 errorRow Tryz.underlying227 Tryz.underlying229 rfl rfl Tryz.underlying9 (by kernel_rfl) (by kernel_rfl)
    exact ⟨_, _, hv⟩
  · obtain ⟨a0, s0, hv, -⟩ := laid_sentinel (g := 4) (tp := 227) (te := 229) (ts := 9) (ti := 84) h5 (by kernel_rfl) (by kernel_rfl) Tryz.underlying84 errorRow Tryz.underlying227 Tryz.underlying229 rfl rfl Tryz.underlying9 (by kernel_rfl) (by kernel_rfl)
    exact ⟨_, _, hv⟩

theorem kinds_of {W : World} {a b c d e f : String × DataW Unit} {r : List (String × DataW Unit)} (h : laidMet Tryz.prog (a :: b :: c :: d :: e :: f :: ("patchbay/zone.kinds", Rows.laid_patchbay_zone_kinds) :: r) W) : KindsIn W := by
  have h7 := h.tail.tail.tail.tail.tail.tail
  obtain ⟨ps, ⟨g, t, cs, fuel, p, q, hg, ht, hvar, hd, _, _⟩, _⟩ := h7
  obtain rfl : 0 = g := Option.some.inj ((show Tryz.prog.globalNamed "patchbay/zone.kinds" = some 0 by kernel_rfl).symm.trans hg)
  obtain rfl : 89 = t := Option.some.inj ((show (Tryz.prog.globals[0]?).map (·.type) = some 89 by kernel_rfl).symm.trans ht)
  obtain ⟨xs, m, -, hx, hl, hxl, hat⟩ := DataW.trod_array Tryz.underlying89 hd
  have hce : Tryz.prog.cellsOf 9 = 1 := by kernel_rfl
  have hxs : (DataW.agg (xs.map (·.1)) : DataW Unit) = Rows.laid_patchbay_zone_kinds := (congrArg Prod.fst hx).symm
  unfold Rows.laid_patchbay_zone_kinds at hxs
  injection hxs with hxs
  intro i s hi
  have hi6 : i < 6 := by have := (List.getElem?_eq_some_iff.1 hi).1; simpa [kindsL] using this
  have h1 := hat i hi6
  rw [hce, Nat.mul_one, List.getElem?_eq_getElem (by omega)] at h1
  obtain ⟨s', e1, e2, -⟩ := DataW.trod_string Tryz.underlying9 h1
  have h2 : (xs.map (·.1))[i]? = some (DataW.lit (.string s'.data.toList) : DataW Unit) := by
    rw [List.getElem?_map, List.getElem?_eq_getElem (by omega), e2]; rfl
  rw [hxs] at h2
  have h3 : (kindsL.map fun x => (DataW.lit (.string x) : DataW Unit))[i]? = some (DataW.lit (.string s'.data.toList)) := h2
  rw [List.getElem?_map, hi] at h3
  simp only [Option.map_some, Option.some.injEq, DataW.lit.injEq, Lit.string.injEq] at h3
  have h4 : cs[i]? = some (.string s') := by
    have := congrArg (·[0]?) e1
    simpa [List.getElem?_take, List.getElem?_drop] using this
  have h5 := World.var?_cell hg hvar i
  rw [h5, h4, h3]

/-! How long a text is at most. -/
theorem bulk_part {H : Type} {d : DataW H} {l : List (DataW H)} (h : d ∈ l) : Rows.uptoBulk d ≤ Rows.uptoBulkAll l := by
  induction l with
  | nil => cases h
  | cons x r ih =>
    rw [Rows.uptoBulkAll]
    rcases List.mem_cons.1 h with rfl | h
    · omega
    · have := ih h; omega
theorem bulk_elem {H : Type} {d : DataW H} {l m : List (DataW H)} (h : d ∈ l) : Rows.uptoBulk d ≤ Rows.uptoBulk (.slice l m) := by
  have := bulk_part h
  rw [Rows.uptoBulk]; omega
theorem bulk_field {H : Type} {d : DataW H} {l : List (DataW H)} (h : d ∈ l) : Rows.uptoBulk d ≤ Rows.uptoBulk (.agg l) := by
  have := bulk_part h
  rw [Rows.uptoBulk]; omega
theorem bulk_text {H : Type} (b : List UInt8) : b.length ≤ Rows.uptoBulk (DataW.lit (H := H) (.string b)) := by
  simp [Rows.uptoBulk]
theorem bulk_bound {H : Type} {l : List (DataW H)} (hk : Rows.uptoSmall H l = true) {d : DataW H} (h : d ∈ l) : Rows.uptoBulk d ≤ 1048576 := by
  have h1 : Rows.uptoBulkAll l ≤ 1048576 := of_decide_eq_true hk
  exact Nat.le_trans (bulk_part h) h1

section
variable {H : Type} {enc : TypeId × Value → H} {W : World}
theorem fieldB {t : TypeId} {fs : Array Field} {fuel : Nat} {cs : List Value} {x : DataW H × List MemPlace} (ht : Tryz.prog.underlying t = some (.struct fs)) (h : DataW.trod enc Tryz.prog W 0 (fun _ => true) true fuel t cs = some x) {j : Nat} {f : Field} (hj : fs[j]? = some f) {k : Nat} (hk : Tryz.prog.cellsOf f.type = k) :
    ∃ n y, DataW.trod enc Tryz.prog W 0 (fun _ => true) true n f.type ((cs.drop f.offset).take k) = some y ∧ Rows.uptoBulk y.1 ≤ Rows.uptoBulk x.1 := by
  obtain ⟨ys, n', _, hx, _, hyl, hf⟩ := DataW.trod_struct ht h
  have hjl : j < ys.length := by rw [hyl]; exact (Array.getElem?_eq_some_iff.1 hj).1
  have h1 := hf j f hj
  rw [hk, List.getElem?_eq_getElem hjl] at h1
  refine ⟨n', _, h1, ?_⟩
  rw [hx]
  exact bulk_field (List.mem_map.2 ⟨_, List.getElem_mem hjl, rfl⟩)
theorem text_of (s : ByteArray) : (⟨s.data.toList.toArray⟩ : ByteArray) = s := by simp
theorem recB {n : Nat} {cs : List Value} {x : DataW H × List MemPlace} (hl : cs.length = 4) (h : DataW.trod enc Tryz.prog W 0 (fun _ => true) true n 43 cs = some x) : ∃ r : Cb.Rec, cs = recV r ∧ r.data.length ≤ Rows.uptoBulk x.1 := by
  match cs, hl with
  | [c0, c1, c2, c3], _ =>
    obtain ⟨m0, y0, h0, -⟩ := fieldB Tryz.underlying43 h (j := 0) rfl (k := 1) (by kernel_rfl)
    obtain ⟨m1, y1, h1, -⟩ := fieldB Tryz.underlying43 h (j := 1) rfl (k := 1) (by kernel_rfl)
    obtain ⟨m2, y2, h2, -⟩ := fieldB Tryz.underlying43 h (j := 2) rfl (k := 1) (by kernel_rfl)
    obtain ⟨m3, y3, h3, b3⟩ := fieldB Tryz.underlying43 h (j := 3) rfl (k := 1) (by kernel_rfl)
    obtain ⟨s0, e0, _⟩ := DataW.trod_string Tryz.underlying9 h0
    obtain ⟨i1, e1, _⟩ := DataW.trod_int Tryz.underlying3 h1
    obtain ⟨i2, e2, _⟩ := DataW.trod_int Tryz.underlying3 h2
    obtain ⟨s3, e3, ex3, _⟩ := DataW.trod_string Tryz.underlying9 h3
    rw [ex3] at b3
    simp at e0 e1 e2 e3
    subst e0 e1 e2 e3
    exact ⟨⟨s0.data.toList, i1, i2, s3.data.toList⟩, by unfold recV; rw [text_of, text_of], Nat.le_trans (bulk_text _) b3⟩
theorem recsB {n : Nat} {cs : List Value} {x : DataW H × List MemPlace} (h : DataW.trod enc Tryz.prog W 0 (fun _ => true) true n 22 cs = some x) : ∃ (a : Option Addr) (l : List Cb.Rec) (cap : Nat), cs = [.slice a l.length cap] ∧ Recs W.heap.size W (.slice a l.length cap) l ∧ ∀ r ∈ l, r.data.length ≤ Rows.uptoBulk x.1 := by
  rcases open_slice Tryz.underlying22 h with ⟨rfl, _⟩ | ⟨a, len, cap, m, k, D, Pl, rfl, _, hl, hm, hmm, hxe, hx⟩
  · exact ⟨none, [], 0, rfl, ⟨none, 0, rfl, Nat.le_refl _, by unfold maxLen; omega, fun h => absurd rfl h⟩, by simp⟩
  · simp only [if_true] at hmm
    have hce : Tryz.prog.cellsOf 43 = 4 := by kernel_rfl
    rw [hce] at hx
    obtain ⟨R, hR⟩ := choose_lt (α := Cb.Rec) (n := len) (p := fun i r => (∀ j u, (recV r)[j]? = some u → W.cell? (a.add (i * 4 + j)) = some u) ∧ r.data.length ≤ Rows.uptoBulk x.1) (fun i hi => by
      obtain ⟨cs', hc, ht⟩ := hx i (by omega)
      obtain ⟨_, hcl, hat⟩ := World.cells?_some hc
      obtain ⟨r, rfl, hb⟩ := recB hcl ht
      refine ⟨r, fun j u hu => ?_, ?_⟩
      · have hj : j < 4 := by have := (List.getElem?_eq_some_iff.1 hu).1; rwa [recV_len] at this
        have := hat j hj
        rw [add_add] at this
        rw [this, hu]
      · rw [hxe]
        exact Nat.le_trans hb (bulk_elem (List.mem_map.2 ⟨i, List.mem_range.2 hi, rfl⟩)))
    refine ⟨some a, (List.range len).map R, cap, by simp, ⟨some a, cap, rfl, by simp; omega, hm, fun hn => ?_⟩, fun r hr => ?_⟩
    · have hpos : 0 < len := by
        rcases Nat.eq_zero_or_pos len with h0 | h0
        · subst h0; simp at hn
        · exact h0
      obtain ⟨b, off, spot⟩ := a
      have hc := (hR 0 hpos).1 0 _ rfl
      have hspot : spot = none := by simpa [Addr.add] using World.cell?_spot hc
      subst hspot
      have hb : b < W.heap.size := by have := World.block_lt_of_cell? W _ hc; simpa [Addr.add] using this
      refine ⟨b, off, rfl, hb, .inl hb, fun j y hy i u hu => ?_⟩
      rw [List.getElem?_map, Option.map_eq_some_iff] at hy
      obtain ⟨i', hi', rfl⟩ := hy
      obtain ⟨hj, hi2⟩ := List.getElem?_eq_some_iff.1 hi'
      rw [List.length_range] at hj
      rw [List.getElem_range] at hi2
      subst hi2
      have := (hR j hj).1 i u hu
      rw [add_at] at this
      rw [← this, Nat.add_assoc]
    · obtain ⟨i, hi, rfl⟩ := List.mem_map.1 hr
      exact (hR i (List.mem_range.1 hi)).2
/-- A zone as it lies in its cells. -/
def zoneL (o : Lb.Bs) (a : Option Addr) (n cap : Nat) : List Value := [.string ⟨o.toArray⟩, .slice a n cap]
theorem zoneB {n : Nat} {cs : List Value} {x : DataW H × List MemPlace} (hl : cs.length = 2) (h : DataW.trod enc Tryz.prog W 0 (fun _ => true) true n 24 cs = some x) :
    ∃ (o : Lb.Bs) (a : Option Addr) (l : List Cb.Rec) (cap : Nat), cs = zoneL o a l.length cap ∧ Recs W.heap.size W (.slice a l.length cap) l ∧ ∀ r ∈ l, r.data.length ≤ Rows.uptoBulk x.1 := by
  match cs, hl with
  | [c0, c1], _ =>
    obtain ⟨m0, y0, h0, -⟩ := fieldB Tryz.underlying24 h (j := 0) rfl (k := 1) (by kernel_rfl)
    obtain ⟨m1, y1, h1, b1⟩ := fieldB Tryz.underlying24 h (j := 1) rfl (k := 1) (by kernel_rfl)
    obtain ⟨s0, e0, _⟩ := DataW.trod_string Tryz.underlying9 h0
    obtain ⟨a, l, cap, e1, hr, hb⟩ := recsB h1
    simp at e0 e1
    subst e0 e1
    exact ⟨s0.data.toList, a, l, cap, by unfold zoneL; rw [text_of], hr, fun r hr => Nat.le_trans (hb r hr) b1⟩
set_option maxRecDepth 100000 in
/-- A zone that came in. -/
theorem zone_came {base : Nat} {v : Value} {d : DataW H} {p : List MemPlace} (hok : Value.okWide Tryz.prog W .any base 24 v) (h : DataW.Trod enc Tryz.prog W 0 (fun _ => true) true 24 v d p) (hd : Rows.uptoBulk d ≤ 1048576) :
    ∃ (o : Lb.Bs) (a : Option Addr) (l : List Cb.Rec) (cap : Nat), v = .agg #[.string ⟨o.toArray⟩, .slice a l.length cap] ∧ Recs W.heap.size W (.slice a l.length cap) l ∧ ∀ r ∈ l, r.data.length ≤ 1048576 := by
  obtain ⟨cs, rfl, hsz⟩ := okWide_struct Tryz.underlying24 hok
  have hce : Tryz.prog.cellsOf 24 = 2 := by kernel_rfl
  rw [hce] at hsz
  obtain ⟨fuel, hf⟩ := h
  obtain ⟨l⟩ := cs
  obtain ⟨o, a, L, cap, hx, hr, hb⟩ := zoneB (cs := l) (by simpa using hsz) (by simpa [Value.cells] using hf)
  exact ⟨o, a, L, cap, by rw [hx]; rfl, hr, fun r hr => Nat.le_trans (hb r hr) hd⟩
end
end Go.Proofs.YtajllcbjgndcpaaGreatDoor
