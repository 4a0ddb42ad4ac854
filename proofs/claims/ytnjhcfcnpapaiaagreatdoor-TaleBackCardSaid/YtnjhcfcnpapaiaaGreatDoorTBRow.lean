/- There and back: whatever script and text are handed over, TaleBack returns true and leaves its arguments as they were. The program's variables start as its text lays them (the card ties them). -/
import Derived.Test.YtnjhcfcnpapaiaaGreatDoorCards
import Derived.Test.YtnjhcfcnpapaiaaGreatDoorTie
import Derived.Test.YtnjhcfcnpapaiaaGreatDoorPT
import Derived.Test.YtnjhcfcnpapaiaaGreatDoorBW
import Derived.Test.YtnjhcfcnpapaiaaGreatDoorTB3
import Derived.Test.YtnjhcfcnpapaiaaGreatDoorTBFacts
import Derived.ChangeMaps5
import Derived.JoinedOf
import Derived.Handed
import Derived.Deep.DeepHandedRow
namespace Go.Proofs.YtnjhcfcnpapaiaaGreatDoor
open Go.ChangeShapes Go.WideShapes Go.ChangeAt Go.RowKit Go.AM

namespace TaleBack
set_option maxRecDepth 100000
theorem i64_of {n : Int} (h : (Lit.int .i64 n).wf = true) : i64 n := by
  unfold Lit.wf at h
  simp only [Bool.and_eq_true, decide_eq_true_eq] at h
  exact h
/-- A choice that is handed over. -/
theorem choice_of (ys : List AV) (h : okSs [.int .i64, .int .i64, .int .i64, .int .i64, .int .i64, .int .i64, .int .i64, .int .i64, .str, .str, .str, .str] ys) :
    ∃ c : { c : Chs // Shp c }, ys = chsC c.1 := by
  obtain ⟨_, _, rfl, ⟨y0, rfl, w0⟩, h⟩ := h
  obtain ⟨_, _, rfl, ⟨y1, rfl, w1⟩, h⟩ := h
  obtain ⟨_, _, rfl, ⟨y2, rfl, w2⟩, h⟩ := h
  obtain ⟨_, _, rfl, ⟨y3, rfl, w3⟩, h⟩ := h
  obtain ⟨_, _, rfl, ⟨y4, rfl, w4⟩, h⟩ := h
  obtain ⟨_, _, rfl, ⟨y5, rfl, w5⟩, h⟩ := h
  obtain ⟨_, _, rfl, ⟨y6, rfl, w6⟩, h⟩ := h
  obtain ⟨_, _, rfl, ⟨y7, rfl, w7⟩, h⟩ := h
  obtain ⟨_, _, rfl, ⟨y8, rfl, w8⟩, h⟩ := h
  obtain ⟨_, _, rfl, ⟨y9, rfl, w9⟩, h⟩ := h
  obtain ⟨_, _, rfl, ⟨y10, rfl, w10⟩, h⟩ := h
  obtain ⟨_, _, rfl, ⟨y11, rfl, w11⟩, h⟩ := h
  cases h
  unfold reachBytes at w8 w9 w10 w11
  refine ⟨⟨⟨[y0, y1, y2, y3, y4, y5, y6, y7], [y8, y9, y10, y11]⟩, ?_, ?_, rfl, rfl⟩, rfl⟩
  · intro n hn
    simp only [List.mem_cons, List.not_mem_nil, or_false] at hn
    rcases hn with rfl | rfl | rfl | rfl | rfl | rfl | rfl | rfl
    · exact i64_of w0
    · exact i64_of w1
    · exact i64_of w2
    · exact i64_of w3
    · exact i64_of w4
    · exact i64_of w5
    · exact i64_of w6
    · exact i64_of w7
  · intro t ht
    simp only [List.mem_cons, List.not_mem_nil, or_false] at ht
    rcases ht with rfl | rfl | rfl | rfl <;> omega

theorem one_cell {P : Program} {t e : TypeId} {H : Type} {enc : TypeId × Value → H} {w : World} {n : Nat} {v : Value} {x : DataW H × List MemPlace} (ht : P.underlying t = some (.slice e))
    (h : DataW.trod enc P w 0 (fun _ => true) true n t [v] = some x) : DataW.Trod enc P w 0 (fun _ => true) true t v x.1 x.2 ∧ ∃ a len cap, v = .slice a len cap := by
  rcases DataW.trod_slice ht h with ⟨hcs, -⟩ | ⟨a, len, cap, elems, rest, n', -, hcs, -⟩
  · injection hcs with hcs _
    subst hcs
    exact ⟨⟨n, by simpa [Value.cells] using h⟩, _, _, _, rfl⟩
  · injection hcs with hcs _
    subst hcs
    exact ⟨⟨n, by simpa [Value.cells] using h⟩, _, _, _, rfl⟩

theorem cells3 : Tryz.prog.cellsOf 3 = 1 := by kernel_rfl
theorem cells9 : Tryz.prog.cellsOf 9 = 1 := by kernel_rfl
theorem cells23 : Tryz.prog.cellsOf 23 = 3 := by kernel_rfl
theorem cells24 : Tryz.prog.cellsOf 24 = 1 := by kernel_rfl
theorem cells25 : Tryz.prog.cellsOf 25 = 1 := by kernel_rfl
theorem cells27 : Tryz.prog.cellsOf 27 = 6 := by kernel_rfl
theorem cells41 : Tryz.prog.cellsOf 41 = 12 := by kernel_rfl
theorem bytes41 : Tryz.prog.bytesOf 41 = 128 := by kernel_rfl
theorem flat23 : flatSh Tryz.prog 8 23 = some [.int .i64, .int .i64, .int .i64] := by kernel_rfl
theorem flat41 : flatSh Tryz.prog 8 41 = some [.int .i64, .int .i64, .int .i64, .int .i64, .int .i64, .int .i64, .int .i64, .int .i64, .str, .str, .str, .str] := by kernel_rfl

/-- A script, opened. -/
theorem open_script {H : Type} {enc : TypeId × Value → H} {w : World} {r : Reach} {b0 : Nat} {v : Value} {d : DataW H} {ps : List MemPlace}
    (hd : DataW.Trod enc Tryz.prog w 0 (fun _ => true) true 27 v d ps) (hw : (d.weights Tryz.prog 27).all (· ≤ reachBytes) = true) (hv : Value.okWide Tryz.prog w r b0 27 v) :
    ∃ f g c seed a0 a1 a2 c4 c5, v = .agg #[a0, a1, a2, .string seed, c4, c5] ∧ i64 f ∧ i64 g ∧ i64 c ∧ seed.size ≤ reachBytes ∧ (∀ m w', RepL m w' [.int .i64 f, .int .i64 g, .int .i64 c] [a0, a1, a2]) ∧
      (∃ d ps, DataW.Trod enc Tryz.prog w 0 (fun _ => true) true 24 c4 d ps ∧ (d.weights Tryz.prog 24).all (· ≤ reachBytes) = true) ∧ (∃ a len cap, c4 = .slice a len cap) ∧
      (∃ d ps, DataW.Trod enc Tryz.prog w 0 (fun _ => true) true 25 c5 d ps ∧ (d.weights Tryz.prog 25).all (· ≤ reachBytes) = true) ∧ (∃ a len cap, c5 = .slice a len cap) := by
  obtain ⟨cs, rfl, hsz⟩ := okWide_struct Tryz.underlying27 hv
  rw [cells27] at hsz
  obtain ⟨fuel, hf⟩ := hd
  obtain ⟨xs, n, rfl, hdx, hcl, hxl, hfi⟩ := DataW.trod_struct Tryz.underlying27 hf
  obtain rfl := (Prod.mk.inj hdx).1
  unfold DataW.weights at hw
  rw [Tryz.underlying27] at hw
  simp only at hw
  obtain ⟨l⟩ := cs
  match l, hsz with
  | [a0, a1, a2, a3, a4, a5], _ =>
    match xs, hxl with
    | [x0, x1, x2, x3], _ =>
      have f0 := hfi 0 _ rfl
      have f1 := hfi 1 _ rfl
      have f2 := hfi 2 _ rfl
      have f3 := hfi 3 _ rfl
      simp only [cells9, cells23, cells24, cells25, Value.cells] at f0 f1 f2 f3
      obtain ⟨ys, p, q⟩ := flat_dec2 8 23 _ flat23 _ _ x0 f0 (each_all hw 0 23 x0.1 rfl rfl)
      obtain ⟨_, _, rfl, ⟨y0, rfl, w0⟩, q⟩ := q
      obtain ⟨_, _, rfl, ⟨y1, rfl, w1⟩, q⟩ := q
      obtain ⟨_, _, rfl, ⟨y2, rfl, w2⟩, q⟩ := q
      cases q
      obtain ⟨m, e3, ex, _⟩ := DataW.trod_string Tryz.underlying9 f1
      injection e3 with e3 _
      have hws := each_all hw 1 9 x1.1 rfl rfl
      rw [ex] at hws
      obtain ⟨t4, s4⟩ := one_cell Tryz.underlying24 f2
      obtain ⟨t5, s5⟩ := one_cell Tryz.underlying25 f3
      refine ⟨y0, y1, y2, m, a0, a1, a2, a4, a5, by rw [← e3], i64_of w0, i64_of w1, i64_of w2, ?_, p.1, ⟨_, _, t4, each_all hw 2 24 x2.1 rfl rfl⟩, s4, ⟨_, _, t5, each_all hw 3 25 x3.1 rfl rfl⟩, s5⟩
      simpa [DataW.weights] using hws

set_option maxRecDepth 100000

theorem own : ownKnob Tryz.prog.godebug = none := by kernel_rfl
theorem laidOut : laidOutB Tryz.prog = true := by kernel_rfl

noncomputable def low : Nat := (World.holding Tryz.prog default ⟨#[], #[], []⟩).heap.size
def setG (h : Array Obj) (g : Nat) (cs : Array Value) : Array Obj := h.modify g fun | .cells _ t fr => .cells cs t fr | o => o
def u8s (l : List Int) : Array Value := (l.map fun z => Value.int .u8 z).toArray
noncomputable def laidWorld (os : Os) : World :=
  let w0 := World.holding Tryz.prog os ⟨#[.cells #[.string ⟨#[105, 110, 118, 97, 108, 105, 100, 32, 115, 121, 110, 116, 97, 120]⟩] 507, .cells #[.string ⟨#[118, 97, 108, 117, 101, 32, 111, 117, 116, 32, 111, 102, 32, 114, 97, 110, 103, 101]⟩] 507], #[], []⟩
  let h1 := setG w0.heap 2 (#[1779033703, 3144134277, 1013904242, 2773480762, 1359893119, 2600822924, 528734635, 1541459225].map fun z => Value.int .u32 z)
  let h2 := setG h1 0 #[.iface 505 (.pointer (some ⟨low, 0, none⟩))]
  let h3 := setG h2 1 #[.iface 505 (.pointer (some ⟨low + 1, 0, none⟩))]
  let h4 := setG h3 5 (#[.string ⟨#[48, 49, 50, 51, 52, 53, 54, 55, 56, 57, 97, 98, 99, 100, 101, 102]⟩, .string ⟨#[101, 97, 52, 56, 57, 102, 100, 54, 49, 99, 48, 50, 98, 55, 53, 51]⟩, .string ⟨#[98, 56, 99, 48, 53, 50, 102, 100, 97, 101, 51, 54, 55, 49, 57, 52]⟩, .string ⟨#[55, 57, 51, 49, 100, 99, 98, 101, 50, 54, 53, 97, 52, 48, 102, 56]⟩, .string ⟨#[57, 48, 53, 55, 50, 52, 97, 102, 101, 49, 98, 99, 54, 56, 51, 100]⟩, .string ⟨#[50, 99, 54, 97, 48, 98, 56, 51, 52, 100, 55, 53, 102, 101, 49, 57]⟩, .string ⟨#[99, 53, 49, 102, 101, 100, 52, 97, 48, 55, 54, 51, 57, 50, 56, 98]⟩, .string ⟨#[100, 98, 55, 101, 99, 49, 51, 57, 53, 48, 102, 52, 56, 54, 50, 97]⟩, .string ⟨#[54, 102, 101, 57, 98, 51, 48, 56, 99, 50, 100, 55, 49, 52, 97, 53]⟩, .string ⟨#[97, 50, 56, 52, 55, 54, 49, 53, 102, 98, 57, 101, 51, 99, 100, 48]⟩])
  let h5 := setG h4 3 ((Lib.pow10Tab.map fun z => Value.int .u64 z).toArray)
  let h6 := setG h5 6 (u8s [0, 1, 28, 2, 29, 14, 24, 3, 30, 22, 20, 15, 25, 17, 4, 8, 31, 27, 13, 23, 21, 19, 16, 7, 26, 12, 18, 6, 11, 5, 10, 9])
  let h7 := setG h6 7 (u8s [0, 1, 56, 2, 57, 49, 28, 3, 61, 58, 42, 50, 38, 29, 17, 4, 62, 47, 59, 36, 45, 43, 51, 22, 53, 39, 33, 30, 24, 18, 12, 5, 63, 55, 48, 27, 60, 41, 37, 16, 46, 35, 44, 21, 52, 32, 23, 11, 54, 26, 40, 15, 34, 20, 31, 10, 25, 14, 19, 9, 13, 8, 7, 6])
  { w0 with heap := h7 }
theorem laid_met (os : Os) : laidMet Tryz.prog laidOf ((laidWorld os).forCall (fun _ _ => 0) ⟨#[], #[.agg #[.int .i64 0, .int .i64 0, .int .i64 0, .string ⟨#[]⟩, .slice none 0 0, .slice none 0 0], .string ⟨#[]⟩], []⟩).memory :=
  laidMet_of_run' 8 (by kernel_rfl) (by kernel_rfl)
theorem reads (os : Os) {H : Type} (enc : TypeId × Value → H) : ∃ places, DataW.whole enc Tryz.prog ((laidWorld os).forCall (fun _ _ => 0) ⟨#[], #[.agg #[.int .i64 0, .int .i64 0, .int .i64 0, .string ⟨#[]⟩, .slice none 0 0, .slice none 0 0], .string ⟨#[]⟩], []⟩).memory Tryz.f3.params.toList Rows.taleBackSpec.vars false #[Value.agg #[.int .i64 0, .int .i64 0, .int .i64 0, .string ⟨#[]⟩, .slice none 0 0, .slice none 0 0], .string ⟨#[]⟩].toList 8 = some ([.agg [.agg [.lit (.int .i64 0), .lit (.int .i64 0), .lit (.int .i64 0)], .lit (.string []), .nil, .nil], .lit (.string [])], [], places) :=
  ⟨[], by kernel_rfl⟩

theorem lifted (os : Os) (started : os.Started) (H : Type) (enc : TypeId × Value → H) (F : Stop.Interp) :
    ReturnsInHanded {} Tryz.checked os 3 .any ((OpenSpec.ofChange Rows.taleBackSpec).preRow enc Tryz.prog Tryz.f3 Rows.taleBackRow.domain false Rows.taleBackRow.laid) (((OpenSpec.ofChange Rows.taleBackSpec).at F).post enc Tryz.prog Tryz.f3 false true false false) := by
  obtain ⟨places, hx⟩ := reads os enc
  refine law_row2 (C := Tryz.checked) (fn := Tryz.f3) (s := Rows.taleBackSpec) (rt := 4) own started (by kernel_rfl) Tryz.func3
    (witness_row_at (enc := enc) (C := Tryz.checked) false (laidWorld os) #[.agg #[.int .i64 0, .int .i64 0, .int .i64 0, .string ⟨#[]⟩, .slice none 0 0, .slice none 0 0], .string ⟨#[]⟩] rfl (by kernel_rfl) (by kernel_rfl) (by kernel_rfl)
      (OpenSpec.preRow_of_cond 8 hx (by kernel_rfl) (fun k hk => by cases hk) (by kernel_rfl) (laid_met os))) laidOut rfl ?_ (by kernel_rfl) Tryz.underlying4 ?_ ?_
  · intro ds h
    match ds, h with
    | [d0, d1], _ => rfl
  · intro t ht
    have : t = 27 ∨ t = 9 := by simpa [Tryz.params3] using ht
    rcases this with rfl | rfl
    · exact ⟨by kernel_rfl, of_decide_eq_true (by kernel_rfl)⟩
    · exact ⟨by kernel_rfl, of_decide_eq_true (by kernel_rfl)⟩
  · intro W args ds p hA hval hwt hL hSh
    have hA' : DataW.TrodAll enc Tryz.prog W 0 (fun _ => true) true Tryz.f3.params.toList args.toList ds p := hA
    rw [Tryz.params3] at hA'
    obtain ⟨v0, vs0, d0, ds0, p0, q0, hargs, rfl, rfl, h0, r0⟩ := trodAll_cons hA'
    obtain ⟨v1, vs1, d1, ds1, p1, q1, rfl, rfl, rfl, h1, r1⟩ := trodAll_cons r0
    obtain ⟨rfl, rfl, rfl⟩ := trodAll_nil r1
    obtain rfl : args = #[v0, v1] := by cases args; simp_all
    obtain ⟨b0, hv0⟩ := hval 0 27 v0 (by rw [show Tryz.f3.params = #[27, 9] from Tryz.params3]; rfl) rfl
    obtain ⟨b1, hv1⟩ := hval 1 9 v1 (by rw [show Tryz.f3.params = #[27, 9] from Tryz.params3]; rfl) rfl
    obtain ⟨f, gr, c, seed, a0, a1, a2, c4, c5, rfl, hf0, hg0, hc0, hseed, R0, ⟨dd4, pp4, t4, w4⟩, s4, ⟨dd5, pp5, t5, w5⟩, s5⟩ := open_script h0 (hwt 0 27 d0 (by rw [Tryz.params3]; rfl) rfl) hv0
    obtain ⟨txt, rfl, rfl, _⟩ := Go.ChangeMaps.open_string Tryz.underlying9 hv1 h1
    have htx : txt.size ≤ reachBytes := by
      have := hwt 1 9 _ (by rw [Tryz.params3]; rfl) rfl
      simpa [DataW.weights] using this
    obtain ⟨odd, hodd, _, has4⟩ := open_intz2 (e := 3) Tryz.underlying24 Tryz.underlying3 cells3 t4 w4 s4
    obtain ⟨l, hlb, has5⟩ := open_structs2 (e := 41) (f := fun c : { c : Chs // Shp c } => chsC c.1) (s := [.int .i64, .int .i64, .int .i64, .int .i64, .int .i64, .int .i64, .int .i64, .int .i64, .str, .str, .str, .str]) Tryz.underlying25 flat41 cells41 (by decide) rfl choice_of t5 w5 s5
    rw [bytes41] at hlb
    unfold reachBytes at hseed htx hlb
    obtain ⟨t1, t2, z, hs, hf⟩ := start_sim (start_of hL hSh)
    obtain ⟨x4, σ4, m4, e4, A4, S4, F4, G4, R4, H4⟩ := has4 _ _ _ hs hf (start_has t1 t2 z)
    obtain ⟨x5, σ5, m5, e5, A5, S5, F5, G5, R5, H5⟩ := has5 _ _ _ S4 F4 H4
    obtain ⟨o4, k4, rfl⟩ := A4.sl
    obtain ⟨o5, k5, rfl⟩ := A5.sl
    have HF : HasH σ5 (e4 ++ (e5 ++ gl t1 t2 z)) := H5.perm (by
      rw [← List.append_assoc, ← List.append_assoc]
      exact List.perm_append_comm.append_right _)
    have hRl : Row 12 (.slice o5 (l.map (·.1)).length k5 12) (l.map (·.1)).length ((l.map (·.1)).flatMap chsC) e5 := by
      have := Row.ofArg A5
      simpa [List.flatMap_map] using this
    have hlm : (l.map (·.1)).length = l.length := List.length_map ..
    refine calls_yes (S := lvl1) (by kernel_rfl) (back_run (N := l.length + 100001) (d := 20) (s := ⟨f, gr, c, seed, odd, l.map (·.1)⟩) (fun σ h => good_gl (t1 := t1) (t2 := t2) (z := z) h) (Row.ofArg A4) hRl ?_ (fun n hn => i64_of (hodd n hn)) hf0 hg0 hc0 (by show seed.size ≤ _; omega)
      (by show (l.map (·.1)).length ≤ _; omega) (by omega) (by show (l.map (·.1)).length < _; omega) (t := txt) (by omega) HF) (lvl1_sound _) S5 F5 (.cons _ _ _ _ (.agg _ _ ?_) (.cons _ _ _ _ (.str _) .nil))
    · intro c hc
      obtain ⟨a, _, rfl⟩ := List.mem_map.1 hc
      exact a.2
    · rw [hlm]
      exact (R0 _ _).append (.cons _ _ _ _ (.str _) (.cons _ _ _ _ (R4.mono G5) (.cons _ _ _ _ R5 .nil)))

theorem said : Rows.TaleBackSaid :=
  OpenClaim.holds_of_cond 3 Tryz.f3 rfl rfl rfl rfl rfl rfl rfl ⟨rfl, rfl, rfl, rfl, rfl⟩ rfl rfl rfl rfl rfl (by kernel_rfl) Tryz.func3 taleBack_facts
    (of_decide_eq_true (by kernel_rfl)) (by unfold Func.isWrapper; first | (rw [if_pos (by decide +kernel)]; kernel_rfl) | (rw [if_neg (by decide +kernel)]; exact ⟨rfl, rfl⟩))
    (fun os started H enc _ F => by rw [OpenClaim.pre_eq_preRow]; exact lifted os started H enc F)

theorem plain (f : FuncId) (fn : Func) (hf : Tryz.pinned.checked.prog.funcNamed "wapentake/wapentakelaw26.TaleBack" = some f) (hfn : Tryz.pinned.checked.prog.funcs[f]? = some fn) :
    true = Tryz.pinned.checked.prog.looks [] ∧ ∀ (j : Nat) t, fn.params[j]? = some t → Tryz.pinned.checked.prog.wantsStandIn t = false := by
  obtain rfl : f = 3 := Option.some.inj ((show Tryz.prog.funcNamed "wapentake/wapentakelaw26.TaleBack" = some 3 by kernel_rfl).symm.trans hf) |>.symm
  obtain rfl : fn = Tryz.f3 := (Option.some.inj (Tryz.func3.symm.trans hfn)).symm
  refine ⟨by kernel_rfl, fun j t ht => ?_⟩
  rw [Tryz.params3] at ht
  have : t = 27 ∨ t = 9 := by simpa using Array.mem_of_getElem? ht
  rcases this with rfl | rfl
  · exact (show Tryz.prog.wantsStandIn 27 = false by kernel_rfl)
  · exact (show Tryz.prog.wantsStandIn 9 = false by kernel_rfl)
end TaleBack

end Go.Proofs.YtnjhcfcnpapaiaaGreatDoor
