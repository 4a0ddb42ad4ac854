/- What the program's variables hold when a law of a peer begins. -/
import Derived.Test.YtnjhcfcnpapaiaaGreatDoorRows
import Derived.Test.YtnjhcfcnpapaiaaGreatDoorPM
import Derived.Lib.LaidTab
namespace Go.Proofs.YtnjhcfcnpapaiaaGreatDoor
open Go.ChangeShapes Go.WideShapes Go.ChangeAt Go.RowKit Go.AM
set_option maxRecDepth 100000

theorem laid_var {P : Program} {W : World} {n : String} {d : DataW Unit} {rest : List (String × DataW Unit)} {ps : List MemPlace} (h : DataW.LaidVars P W ((n, d) :: rest) ps) :
    (∃ g t cs fuel p, P.globalNamed n = some g ∧ (P.globals[g]?).map (·.type) = some t ∧ W.var? P n = some cs ∧ DataW.trod (fun _ => ()) P W 0 (fun _ => true) false fuel t cs.toList = some (d, p)) ∧ ∃ q, DataW.LaidVars P W rest q := by
  obtain ⟨g, t, cs, fuel, p, q, h1, h2, h3, h4, h5, h6⟩ := h
  exact ⟨⟨g, t, cs, fuel, p, h1, h2, h3, h4⟩, q, h5⟩
theorem var_heap {P : Program} {W : World} {n : String} {g : Nat} {cs : Array Value} (hg : P.globalNamed n = some g) (h : W.var? P n = some cs) : ∃ el fr, W.heap[g]? = some (.cells cs el fr) := by
  unfold World.var? at h
  rw [hg] at h
  simp only [Option.bind_some] at h
  split at h
  · rename_i el fr hh; injection h with h; subst h; exact ⟨_, _, hh⟩
  · cases h

def laidOf : List (String × DataW Unit) := [("math/bits.deBruijn32tab", Rows.laid_math_bits_deBruijn32tab), ("math/bits.deBruijn64tab", Rows.laid_math_bits_deBruijn64tab), ("internal/strconv.uint64pow10", Rows.laid_internal_strconv_uint64pow10), ("strconv.ErrRange", Rows.laid_strconv_ErrRange), ("strconv.ErrSyntax", Rows.laid_strconv_ErrSyntax), ("wapentake/blake.rows", Rows.laid_wapentake_blake_rows), ("wapentake/blake.start", Rows.laid_wapentake_blake_start)]

theorem laid_met_of {W : World} (h : laidMetH Tryz.prog laidOf W) : laidMet Tryz.prog laidOf W := h

theorem start_of {W : World} (h : laidMetH Tryz.prog laidOf W) (hSh : W.ShapedOpen Tryz.prog) : Start W := by
  obtain ⟨ps, hv, _⟩ := laid_met_of h
  obtain ⟨_, q1, hv⟩ := laid_var hv
  obtain ⟨_, q2, hv⟩ := laid_var hv
  obtain ⟨⟨g4, t4, c4, f4, p4, a1, a2, a3, a4⟩, q3, hv⟩ := laid_var hv
  obtain ⟨⟨g2, t2, c2, f2, p2, b1, b2, b3, b4⟩, q4, hv⟩ := laid_var hv
  obtain ⟨⟨g1, t1, c1, f1, p1, d1, d2, d3, d4⟩, q5, hv⟩ := laid_var hv
  have hg4 : Tryz.prog.globalNamed "internal/strconv.uint64pow10" = some 3 := by kernel_rfl
  have hg2 : Tryz.prog.globalNamed "strconv.ErrRange" = some 1 := by kernel_rfl
  have hg1 : Tryz.prog.globalNamed "strconv.ErrSyntax" = some 0 := by kernel_rfl
  have ht4 : (Tryz.prog.globals[3]?).map (·.type) = some 501 := by kernel_rfl
  have ht2 : (Tryz.prog.globals[1]?).map (·.type) = some 93 := by kernel_rfl
  have ht1 : (Tryz.prog.globals[0]?).map (·.type) = some 93 := by kernel_rfl
  obtain rfl := Option.some.inj (hg4.symm.trans a1)
  obtain rfl := Option.some.inj (hg2.symm.trans b1)
  obtain rfl := Option.some.inj (hg1.symm.trans d1)
  obtain rfl := Option.some.inj (ht4.symm.trans a2)
  obtain rfl := Option.some.inj (ht2.symm.trans b2)
  obtain rfl := Option.some.inj (ht1.symm.trans d2)
  obtain ⟨m, hm⟩ : ∃ m, W.cell? ⟨4, 0, none⟩ = some (.int .i64 m) := Tryz.laysM145.s1_3 W hSh
  refine ⟨?_, ?_, ?_, ?_⟩
  · obtain ⟨u, v, hc⟩ := trod_iface_cell Tryz.underlying93 d4
    obtain ⟨el, fr, hh⟩ := var_heap hg1 d3
    have : c1 = #[.iface u v] := Array.ext' (by simpa using hc)
    subst this
    exact ⟨u, v, el, fr, hh⟩
  · obtain ⟨u, v, hc⟩ := trod_iface_cell Tryz.underlying93 b4
    obtain ⟨el, fr, hh⟩ := var_heap hg2 b3
    have : c2 = #[.iface u v] := Array.ext' (by simpa using hc)
    subst this
    exact ⟨u, v, el, fr, hh⟩
  · obtain ⟨el, fr, hh⟩ := var_heap hg4 a3
    have hcs := Lib.cells_of_tab (zs := Lib.pow10Tab) Tryz.underlying501 Tryz.underlying152 (by kernel_rfl) (by kernel_rfl) a4
    have : c4 = (Lib.pow10Tab.map fun z => Value.int .u64 z).toArray := Array.ext' (by rw [hcs])
    rw [this] at hh
    exact ⟨el, fr, hh⟩
  · obtain ⟨cs, hh, hz, _⟩ := hSh.1 4 #[.int .i64 0] 3 (of_decide_eq_true (by kernel_rfl)) (by kernel_rfl)
    have hm : cs[0]? = some (.int .i64 m) := by unfold World.cell? at hm; simp only [hh] at hm; exact hm
    have hz1 : cs.size = 1 := hz
    have : cs = #[.int .i64 m] := by
      apply Array.ext
      · rw [hz1]; rfl
      · intro i h1 h2
        obtain rfl : i = 0 := by omega
        have := Array.getElem?_eq_getElem h1
        rw [hm] at this
        injection this with this
        rw [← this]; rfl
    subst this
    exact ⟨m, 3, (0, 0), hh⟩

end Go.Proofs.YtnjhcfcnpapaiaaGreatDoor
