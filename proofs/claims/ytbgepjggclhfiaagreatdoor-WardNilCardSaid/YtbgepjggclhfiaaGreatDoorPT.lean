/- What the program's variables hold when a law of a peer begins. -/
import Derived.Test.YtbgepjggclhfiaaGreatDoorRows
import Derived.Test.YtbgepjggclhfiaaGreatDoorPR
import Derived.Test.YtbgepjggclhfiaaGreatDoorA33
import Derived.Lib.LaidTab
namespace Go.Proofs.YtbgepjggclhfiaaGreatDoor
open Go.ChangeShapes Go.WideShapes Go.ChangeAt Go.RowKit Go.AM
set_option maxRecDepth 100000

theorem laid_var {P : Program} {W : World} {n : String} {d : DataW Unit} {rest : List (String × DataW Unit)} {ps : List MemPlace} (h : DataW.LaidVars P W ((n, d) :: rest) ps) :
    (∃ g t cs fuel p, P.globalNamed n = some g ∧ (P.globals[g]?).map (·.type) = some t ∧ W.var? P n = some cs ∧ DataW.trod (fun _ => ()) P W 0 (fun _ => true) false fuel t cs.toList = some (d, p)) ∧ ∃ q, DataW.LaidVars P W rest q := by
  obtain ⟨g, t, cs, fuel, p, q, h1, h2, h3, h4, h5, h6⟩ := h
  exact ⟨⟨g, t, cs, fuel, p, h1, h2, h3, h4⟩, q, h5⟩
theorem var_heap {P : Program} {W : World} {n : String} {g : Nat} {cs : Array Value} (hg : P.globalNamed n = some g) (h : W.var? P n = some cs) : ∃ el fr, W.heap[g]? = some (.cells cs el fr) := by
  unfold World.var? at h
  rw [hg] at h
  simp only [Option.bind_some] at h
  split at h
  · rename_i el fr hh; injection h with h; subst h; exact ⟨_, _, hh⟩
  · cases h

def laidOf : List (String × DataW Unit) := [("math/bits.deBruijn32tab", Rows.laid_math_bits_deBruijn32tab), ("math/bits.deBruijn64tab", Rows.laid_math_bits_deBruijn64tab), ("internal/strconv.uint64pow10", Rows.laid_internal_strconv_uint64pow10), ("strconv.ErrRange", Rows.laid_strconv_ErrRange), ("strconv.ErrSyntax", Rows.laid_strconv_ErrSyntax), ("wapentake/blake.rows", Rows.laid_wapentake_blake_rows), ("wapentake/blake.start", Rows.laid_wapentake_blake_start)]

/-- What holds of the world where a law begins. -/
structure Start (W : World) : Prop where
  syn : ∃ t v el fr, W.heap[1]? = some (.cells #[.iface t v] el fr)
  rng : ∃ t v el fr, W.heap[2]? = some (.cells #[.iface t v] el fr)
  tab : ∃ el fr, W.heap[5]? = some (.cells (Lib.pow10Tab.map fun z => Value.int .u64 z).toArray el fr)
  big : ∃ m el fr, W.heap[4]? = some (.cells #[.int .i64 m] el fr)

theorem laid_met_of {W : World} (h : laidMetH Tryz.prog laidOf W) : laidMet Tryz.prog laidOf W := h

theorem start_of {W : World} (h : laidMetH Tryz.prog laidOf W) (hSh : W.ShapedOpen Tryz.prog) : Start W := by
  obtain ⟨ps, hv, _⟩ := laid_met_of h
  obtain ⟨_, q1, hv⟩ := laid_var hv
  obtain ⟨_, q2, hv⟩ := laid_var hv
  obtain ⟨⟨g4, t4, c4, f4, p4, a1, a2, a3, a4⟩, q3, hv⟩ := laid_var hv
  obtain ⟨⟨g2, t2, c2, f2, p2, b1, b2, b3, b4⟩, q4, hv⟩ := laid_var hv
  obtain ⟨⟨g1, t1, c1, f1, p1, d1, d2, d3, d4⟩, q5, hv⟩ := laid_var hv
  have hg4 : Tryz.prog.globalNamed "internal/strconv.uint64pow10" = some 5 := by kernel_rfl
  have hg2 : Tryz.prog.globalNamed "strconv.ErrRange" = some 2 := by kernel_rfl
  have hg1 : Tryz.prog.globalNamed "strconv.ErrSyntax" = some 1 := by kernel_rfl
  have ht4 : (Tryz.prog.globals[5]?).map (·.type) = some 530 := by kernel_rfl
  have ht2 : (Tryz.prog.globals[2]?).map (·.type) = some 246 := by kernel_rfl
  have ht1 : (Tryz.prog.globals[1]?).map (·.type) = some 246 := by kernel_rfl
  obtain rfl := Option.some.inj (hg4.symm.trans a1)
  obtain rfl := Option.some.inj (hg2.symm.trans b1)
  obtain rfl := Option.some.inj (hg1.symm.trans d1)
  obtain rfl := Option.some.inj (ht4.symm.trans a2)
  obtain rfl := Option.some.inj (ht2.symm.trans b2)
  obtain rfl := Option.some.inj (ht1.symm.trans d2)
  obtain ⟨m, hm⟩ : ∃ m, W.cell? ⟨4, 0, none⟩ = some (.int .i64 m) := Tryz.laysM145.s1_3 W hSh
  refine ⟨?_, ?_, ?_, ?_⟩
  · obtain ⟨u, v, hc⟩ := trod_iface_cell Tryz.underlying246 d4
    obtain ⟨el, fr, hh⟩ := var_heap hg1 d3
    have : c1 = #[.iface u v] := Array.ext' (by simpa using hc)
    subst this
    exact ⟨u, v, el, fr, hh⟩
  · obtain ⟨u, v, hc⟩ := trod_iface_cell Tryz.underlying246 b4
    obtain ⟨el, fr, hh⟩ := var_heap hg2 b3
    have : c2 = #[.iface u v] := Array.ext' (by simpa using hc)
    subst this
    exact ⟨u, v, el, fr, hh⟩
  · obtain ⟨el, fr, hh⟩ := var_heap hg4 a3
    have hcs := Lib.cells_of_tab (zs := Lib.pow10Tab) Tryz.underlying530 Tryz.underlying403 (by kernel_rfl) (by kernel_rfl) a4
    have : c4 = (Lib.pow10Tab.map fun z => Value.int .u64 z).toArray := Array.ext' (by rw [hcs])
    rw [this] at hh
    exact ⟨el, fr, hh⟩
  · obtain ⟨cs, hh, hz, _⟩ := hSh.1 4 #[.int .i64 0] 3 (of_decide_eq_true (by kernel_rfl)) (by kernel_rfl)
    have hm : cs[0]? = some (.int .i64 m) := by unfold World.cell? at hm; simp only [hh] at hm; exact hm
    have hz1 : cs.size = 1 := hz
    have : cs = #[.int .i64 m] := by
      apply Array.ext
      · rw [hz1]; rfl
      · intro i h1 h2
        obtain rfl : i = 0 := by omega
        have := Array.getElem?_eq_getElem h1
        rw [hm] at this
        injection this with this
        rw [← this]; rfl
    subst this
    exact ⟨m, 3, (0, 0), hh⟩

theorem int_reps (m : Mp) (w : World) : ∀ zs : List Int, RepL m w (zs.map (AV.int .u64)) (zs.map fun z => Value.int .u64 z) := by
  intro zs
  induction zs with
  | nil => exact .nil
  | cons z zs ih => exact .cons _ _ _ _ (.int _ _) ih

def m0 : Mp := fun i => match i with
  | 0 => some ⟨1, 0, 0⟩
  | 1 => some ⟨2, 0, 0⟩
  | 2 => some ⟨5, 0, 0⟩
  | 3 => some ⟨4, 0, 0⟩
  | _ => none

theorem get_new0 (t1 t2 : TypeId) (m : Int) (i : Nat) : (σ0 t1 t2 m).get i = match i with
    | 0 => some (.glob 1 [.iface t1 .undef])
    | 1 => some (.glob 2 [.iface t2 .undef])
    | 2 => some (.glob 5 tabAV)
    | 3 => some (.glob 4 [.int .i64 m])
    | _ => none := by
  unfold σ0
  rw [St.get_new, St.get_new, St.get_new, St.get_new]
  have h0 : ∀ i, St.get ⟨.leaf, 0⟩ i = none := by intro i; cases i <;> simp [St.get, Heap.get]
  match i with
  | 0 => rfl
  | 1 => rfl
  | 2 => rfl
  | 3 => rfl
  | i + 4 =>
    simp [St.next_new, h0]

theorem start_sim {W : World} (h : Start W) : ∃ t1 t2 m, Sim W.heap.size (σ0 t1 t2 m) m0 W ∧ Fr m0 (σ0 t1 t2 m).next := by
  obtain ⟨⟨t1, v1, e1, f1, h1⟩, ⟨t2, v2, e2, f2, h2⟩, ⟨e4, f4, h4⟩, ⟨m, e5, f5, h5⟩⟩ := h
  refine ⟨t1, t2, m, ⟨?_, ?_, ?_, Nat.le_refl _, ?_⟩, ?_⟩
  · intro id cs own hid
    rw [get_new0] at hid
    split at hid <;> cases hid
  · intro id x hid hx
    rw [get_new0] at hid
    split at hid <;> first | (cases hid; done) | (injection hid with hid; subst hid; simp [Blk.isObj] at hx)
  · intro i j x y L M hi hj hx
    rw [get_new0] at hi
    split at hi <;> first | (cases hi; done) | (injection hi with hi; subst hi; simp [Blk.own] at hx)
  · intro id g cs hid
    rw [get_new0] at hid
    split at hid
    · injection hid with hid; injection hid with q1 q2; subst q1 q2
      exact ⟨⟨(Array.getElem?_eq_some_iff.1 h1).1, _, rfl⟩, _, _, _, h1, .cons _ _ _ _ (.iface _ _ _ (.undef _)) .nil⟩
    · injection hid with hid; injection hid with q1 q2; subst q1 q2
      exact ⟨⟨(Array.getElem?_eq_some_iff.1 h2).1, _, rfl⟩, _, _, _, h2, .cons _ _ _ _ (.iface _ _ _ (.undef _)) .nil⟩
    · injection hid with hid; injection hid with q1 q2; subst q1 q2
      exact ⟨⟨(Array.getElem?_eq_some_iff.1 h4).1, _, rfl⟩, _, _, _, h4, int_reps m0 W Lib.pow10Tab⟩
    · injection hid with hid; injection hid with q1 q2; subst q1 q2
      exact ⟨⟨(Array.getElem?_eq_some_iff.1 h5).1, _, rfl⟩, _, _, _, h5, .cons _ _ _ _ (.int _ _) .nil⟩
    · cases hid
  · intro i hi
    have : 4 ≤ i := hi
    match i, this with
    | i + 4, _ => rfl

end Go.Proofs.YtbgepjggclhfiaaGreatDoor
