/- Each choice comes back as it was: whatever choice is handed over, TaleChoices returns true and leaves its argument as it was. The program's variables start as its text lays them (the card ties them). -/
import Derived.Test.YtnjhcfcnpapaiaaGreatDoorCards
import Derived.Test.YtnjhcfcnpapaiaaGreatDoorTie
import Derived.Test.YtnjhcfcnpapaiaaGreatDoorPT
import Derived.Test.YtnjhcfcnpapaiaaGreatDoorAW
import Derived.Test.YtnjhcfcnpapaiaaGreatDoorT9
import Derived.Test.YtnjhcfcnpapaiaaGreatDoorTCFacts
import Derived.JoinedOf
import Derived.Handed
import Derived.Deep.DeepHandedRow
namespace Go.Proofs.YtnjhcfcnpapaiaaGreatDoor
open Go.ChangeShapes Go.WideShapes Go.ChangeAt Go.RowKit Go.AM

theorem i64_of {n : Int} (h : (Lit.int .i64 n).wf = true) : i64 n := by
  unfold Lit.wf at h
  simp only [Bool.and_eq_true, decide_eq_true_eq] at h
  exact h
/-- A choice that is handed over. -/
theorem choice_of (ys : List AV) (h : okSs [.int .i64, .int .i64, .int .i64, .int .i64, .int .i64, .int .i64, .int .i64, .int .i64, .str, .str, .str, .str] ys) :
    ∃ y0 y1 y2 y3 y4 y5 y6 y7 y8 y9 y10 y11, (∀ n ∈ [y0, y1, y2, y3, y4, y5, y6, y7], i64 n) ∧ y8.size ≤ 2 ^ 50 ∧ y9.size ≤ 2 ^ 50 ∧ y10.size ≤ 2 ^ 50 ∧
      ys = [.int .i64 y0, .int .i64 y1, .int .i64 y2, .int .i64 y3, .int .i64 y4, .int .i64 y5, .int .i64 y6, .int .i64 y7, .str y8, .str y9, .str y10, .str y11] := by
  obtain ⟨_, _, rfl, ⟨y0, rfl, w0⟩, h⟩ := h
  obtain ⟨_, _, rfl, ⟨y1, rfl, w1⟩, h⟩ := h
  obtain ⟨_, _, rfl, ⟨y2, rfl, w2⟩, h⟩ := h
  obtain ⟨_, _, rfl, ⟨y3, rfl, w3⟩, h⟩ := h
  obtain ⟨_, _, rfl, ⟨y4, rfl, w4⟩, h⟩ := h
  obtain ⟨_, _, rfl, ⟨y5, rfl, w5⟩, h⟩ := h
  obtain ⟨_, _, rfl, ⟨y6, rfl, w6⟩, h⟩ := h
  obtain ⟨_, _, rfl, ⟨y7, rfl, w7⟩, h⟩ := h
  obtain ⟨_, _, rfl, ⟨y8, rfl, w8⟩, h⟩ := h
  obtain ⟨_, _, rfl, ⟨y9, rfl, w9⟩, h⟩ := h
  obtain ⟨_, _, rfl, ⟨y10, rfl, w10⟩, h⟩ := h
  obtain ⟨_, _, rfl, ⟨y11, rfl, w11⟩, h⟩ := h
  cases h
  unfold reachBytes at w8 w9 w10
  refine ⟨y0, y1, y2, y3, y4, y5, y6, y7, y8, y9, y10, y11, ?_, by omega, by omega, by omega, rfl⟩
  intro n hn
  simp only [List.mem_cons, List.not_mem_nil, or_false] at hn
  rcases hn with rfl | rfl | rfl | rfl | rfl | rfl | rfl | rfl
  · exact i64_of w0
  · exact i64_of w1
  · exact i64_of w2
  · exact i64_of w3
  · exact i64_of w4
  · exact i64_of w5
  · exact i64_of w6
  · exact i64_of w7

namespace TaleChoices
set_option maxRecDepth 100000

theorem own : ownKnob Tryz.prog.godebug = none := by kernel_rfl
theorem laidOut : laidOutB Tryz.prog = true := by kernel_rfl

noncomputable def low : Nat := (World.holding Tryz.prog default ⟨#[], #[], []⟩).heap.size
def setG (h : Array Obj) (g : Nat) (cs : Array Value) : Array Obj := h.modify g fun | .cells _ t fr => .cells cs t fr | o => o
def u8s (l : List Int) : Array Value := (l.map fun z => Value.int .u8 z).toArray
noncomputable def laidWorld (os : Os) : World :=
  let w0 := World.holding Tryz.prog os ⟨#[.cells #[.string ⟨#[105, 110, 118, 97, 108, 105, 100, 32, 115, 121, 110, 116, 97, 120]⟩] 507, .cells #[.string ⟨#[118, 97, 108, 117, 101, 32, 111, 117, 116, 32, 111, 102, 32, 114, 97, 110, 103, 101]⟩] 507], #[], []⟩
  let h1 := setG w0.heap 2 (#[1779033703, 3144134277, 1013904242, 2773480762, 1359893119, 2600822924, 528734635, 1541459225].map fun z => Value.int .u32 z)
  let h2 := setG h1 0 #[.iface 505 (.pointer (some ⟨low, 0, none⟩))]
  let h3 := setG h2 1 #[.iface 505 (.pointer (some ⟨low + 1, 0, none⟩))]
  let h4 := setG h3 5 (#[.string ⟨#[48, 49, 50, 51, 52, 53, 54, 55, 56, 57, 97, 98, 99, 100, 101, 102]⟩, .string ⟨#[101, 97, 52, 56, 57, 102, 100, 54, 49, 99, 48, 50, 98, 55, 53, 51]⟩, .string ⟨#[98, 56, 99, 48, 53, 50, 102, 100, 97, 101, 51, 54, 55, 49, 57, 52]⟩, .string ⟨#[55, 57, 51, 49, 100, 99, 98, 101, 50, 54, 53, 97, 52, 48, 102, 56]⟩, .string ⟨#[57, 48, 53, 55, 50, 52, 97, 102, 101, 49, 98, 99, 54, 56, 51, 100]⟩, .string ⟨#[50, 99, 54, 97, 48, 98, 56, 51, 52, 100, 55, 53, 102, 101, 49, 57]⟩, .string ⟨#[99, 53, 49, 102, 101, 100, 52, 97, 48, 55, 54, 51, 57, 50, 56, 98]⟩, .string ⟨#[100, 98, 55, 101, 99, 49, 51, 57, 53, 48, 102, 52, 56, 54, 50, 97]⟩, .string ⟨#[54, 102, 101, 57, 98, 51, 48, 56, 99, 50, 100, 55, 49, 52, 97, 53]⟩, .string ⟨#[97, 50, 56, 52, 55, 54, 49, 53, 102, 98, 57, 101, 51, 99, 100, 48]⟩])
  let h5 := setG h4 3 ((Lib.pow10Tab.map fun z => Value.int .u64 z).toArray)
  let h6 := setG h5 6 (u8s [0, 1, 28, 2, 29, 14, 24, 3, 30, 22, 20, 15, 25, 17, 4, 8, 31, 27, 13, 23, 21, 19, 16, 7, 26, 12, 18, 6, 11, 5, 10, 9])
  let h7 := setG h6 7 (u8s [0, 1, 56, 2, 57, 49, 28, 3, 61, 58, 42, 50, 38, 29, 17, 4, 62, 47, 59, 36, 45, 43, 51, 22, 53, 39, 33, 30, 24, 18, 12, 5, 63, 55, 48, 27, 60, 41, 37, 16, 46, 35, 44, 21, 52, 32, 23, 11, 54, 26, 40, 15, 34, 20, 31, 10, 25, 14, 19, 9, 13, 8, 7, 6])
  { w0 with heap := h7 }
theorem laid_met (os : Os) : laidMet Tryz.prog laidOf ((laidWorld os).forCall (fun _ _ => 0) ⟨#[], #[.agg #[.int .i64 0, .int .i64 0, .int .i64 0, .int .i64 0, .int .i64 0, .int .i64 0, .int .i64 0, .int .i64 0, .string ⟨#[]⟩, .string ⟨#[]⟩, .string ⟨#[]⟩, .string ⟨#[]⟩]], []⟩).memory :=
  laidMet_of_run' 8 (by kernel_rfl) (by kernel_rfl)
theorem reads (os : Os) {H : Type} (enc : TypeId × Value → H) : ∃ places, DataW.whole enc Tryz.prog ((laidWorld os).forCall (fun _ _ => 0) ⟨#[], #[.agg #[.int .i64 0, .int .i64 0, .int .i64 0, .int .i64 0, .int .i64 0, .int .i64 0, .int .i64 0, .int .i64 0, .string ⟨#[]⟩, .string ⟨#[]⟩, .string ⟨#[]⟩, .string ⟨#[]⟩]], []⟩).memory Tryz.f4.params.toList Rows.taleChoicesSpec.vars false #[Value.agg #[.int .i64 0, .int .i64 0, .int .i64 0, .int .i64 0, .int .i64 0, .int .i64 0, .int .i64 0, .int .i64 0, .string ⟨#[]⟩, .string ⟨#[]⟩, .string ⟨#[]⟩, .string ⟨#[]⟩]].toList 8 = some ([.agg [.lit (.int .i64 0), .lit (.int .i64 0), .lit (.int .i64 0), .lit (.int .i64 0), .lit (.int .i64 0), .lit (.int .i64 0), .lit (.int .i64 0), .lit (.int .i64 0), .lit (.string []), .lit (.string []), .lit (.string []), .lit (.string [])]], [], places) :=
  ⟨[], by kernel_rfl⟩

theorem lifted (os : Os) (started : os.Started) (H : Type) (enc : TypeId × Value → H) (F : Stop.Interp) :
    ReturnsInHanded {} Tryz.checked os 4 .any ((OpenSpec.ofChange Rows.taleChoicesSpec).preRow enc Tryz.prog Tryz.f4 Rows.taleChoicesRow.domain false Rows.taleChoicesRow.laid) (((OpenSpec.ofChange Rows.taleChoicesSpec).at F).post enc Tryz.prog Tryz.f4 false true false false) := by
  obtain ⟨places, hx⟩ := reads os enc
  refine law_row2 (C := Tryz.checked) (fn := Tryz.f4) (s := Rows.taleChoicesSpec) (rt := 4) own started (by kernel_rfl) Tryz.func4
    (witness_row_at (enc := enc) (C := Tryz.checked) false (laidWorld os) #[.agg #[.int .i64 0, .int .i64 0, .int .i64 0, .int .i64 0, .int .i64 0, .int .i64 0, .int .i64 0, .int .i64 0, .string ⟨#[]⟩, .string ⟨#[]⟩, .string ⟨#[]⟩, .string ⟨#[]⟩]] rfl (by kernel_rfl) (by kernel_rfl) (by kernel_rfl)
      (OpenSpec.preRow_of_cond 8 hx (by kernel_rfl) (fun k hk => by cases hk) (by kernel_rfl) (laid_met os))) laidOut rfl ?_ (by kernel_rfl) Tryz.underlying4 ?_ ?_
  · intro ds h
    match ds, h with
    | [d0], _ => rfl
  · intro t ht
    have : t = 41 := by simpa [Tryz.params4] using ht
    subst this
    exact ⟨by kernel_rfl, of_decide_eq_true (by kernel_rfl)⟩
  · intro W args ds p hA hval hwt hL hSh
    have hA' : DataW.TrodAll enc Tryz.prog W 0 (fun _ => true) true Tryz.f4.params.toList args.toList ds p := hA
    rw [Tryz.params4] at hA'
    obtain ⟨v0, vs0, d0, ds0, p0, q0, hargs, rfl, rfl, h0, r0⟩ := trodAll_cons hA'
    obtain ⟨rfl, rfl, rfl⟩ := trodAll_nil r0
    obtain rfl : args = #[v0] := by cases args; simp_all
    obtain ⟨b0, hv0⟩ := hval 0 41 v0 (by rw [show Tryz.f4.params = #[41] from Tryz.params4]; rfl) rfl
    obtain ⟨ys0, ok0, R0⟩ := open_plain2 (s := [.int .i64, .int .i64, .int .i64, .int .i64, .int .i64, .int .i64, .int .i64, .int .i64, .str, .str, .str, .str]) Tryz.underlying41 (by kernel_rfl) h0 (hwt 0 41 d0 (by rw [Tryz.params4]; rfl) rfl) hv0
    obtain ⟨y0, y1, y2, y3, y4, y5, y6, y7, y8, y9, y10, y11, hn, hz8, hz9, hz10, rfl⟩ := choice_of ys0 ok0
    obtain ⟨t1, t2, m, hs, hf⟩ := start_sim (start_of hL hSh)
    exact calls_yes (S := lvl1) (by kernel_rfl) (choices_run (N := 100001) (d := 30) (fun σ h => good_gl (t1 := t1) (t2 := t2) (z := m) h) (by decide) hn hz8 hz9 hz10 (start_has t1 t2 m)) (lvl1_sound _) hs hf (.cons _ _ _ _ (R0 _ _) .nil)

theorem said : Rows.TaleChoicesSaid :=
  OpenClaim.holds_of_cond 4 Tryz.f4 rfl rfl rfl rfl rfl rfl rfl ⟨rfl, rfl, rfl, rfl, rfl⟩ rfl rfl rfl rfl rfl (by kernel_rfl) Tryz.func4 taleChoices_facts
    (of_decide_eq_true (by kernel_rfl)) (by unfold Func.isWrapper; first | (rw [if_pos (by decide +kernel)]; kernel_rfl) | (rw [if_neg (by decide +kernel)]; exact ⟨rfl, rfl⟩))
    (fun os started H enc _ F => by rw [OpenClaim.pre_eq_preRow]; exact lifted os started H enc F)

theorem plain (f : FuncId) (fn : Func) (hf : Tryz.pinned.checked.prog.funcNamed "wapentake/wapentakelaw26.TaleChoices" = some f) (hfn : Tryz.pinned.checked.prog.funcs[f]? = some fn) :
    true = Tryz.pinned.checked.prog.looks [] ∧ ∀ (j : Nat) t, fn.params[j]? = some t → Tryz.pinned.checked.prog.wantsStandIn t = false := by
  obtain rfl : f = 4 := Option.some.inj ((show Tryz.prog.funcNamed "wapentake/wapentakelaw26.TaleChoices" = some 4 by kernel_rfl).symm.trans hf) |>.symm
  obtain rfl : fn = Tryz.f4 := (Option.some.inj (Tryz.func4.symm.trans hfn)).symm
  refine ⟨by kernel_rfl, fun j t ht => ?_⟩
  rw [Tryz.params4] at ht
  obtain rfl : t = 41 := by simpa using Array.mem_of_getElem? ht
  exact (show Tryz.prog.wantsStandIn 41 = false by kernel_rfl)
end TaleChoices

end Go.Proofs.YtnjhcfcnpapaiaaGreatDoor
