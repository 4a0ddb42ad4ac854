/- A nil bag has no items: whatever number is asked for, BagNil returns true and leaves its argument as it was. No condition. -/
import Derived.Test.YtdebkakkeaanaaaRows
import Derived.Test.YtdebkakkeaanaaaA28
import Derived.Test.YtdebkakkeaanaaaBagFN
import Derived.JoinedOf
import Derived.Handed
namespace Go.Proofs.Ytdebkakkeaanaaa
open Go.ChangeShapes Go.WideShapes Go.ChangeAt Go.RowKit Go.AM

namespace BagNil
set_option maxRecDepth 100000

abbrev zs : List AV := [AV.int IntKind.i64 0, AV.int IntKind.i64 0, AV.int IntKind.i64 0, AV.str (ByteArray.mk #[])]

theorem len_nil (d : Nat) (σ : St) (K : AV → St → Option Unit) : callK Try.prog 5 ann (d + 1) 13 [AV.ptr none] σ K = K (.int .i64 0) σ := by
  rw [callK_succ, f13_eq]; rfl

theorem see_nil (d : Nat) (i : Int) (σ : St) (K : AV → St → Option Unit) : callK Try.prog 5 ann (d + 2) 12 [AV.ptr none, AV.int IntKind.i64 i] σ K = K (.tuple [.agg zs, .int .i64 6]) (σ.new (.cells zs true)) := by
  have hst : (σ.new (.cells zs true)).st σ.next 0 zs = some (σ.new (.cells zs true)) := by
    rw [St.st_new_self _ _ _ _ (by simp), St.splice_all _ _ rfl]
  rw [callK_succ, f12_eq]
  by_cases hi : i < 0
  · simp [hi, hst, St.ld_new_self, AV.toInt, AV.toStr]
  · have : i ≥ 0 := by omega
    simp [hi, this, hst, St.ld_new_self, AV.toInt, AV.toStr, len_nil]

theorem st_new (σ : St) : (σ.new (.cells zs true)).st σ.next 0 zs = some (σ.new (.cells zs true)) := by
  rw [St.st_new_self _ _ _ _ (by simp), St.splice_all _ _ rfl]

theorem pick_nil (d : Nat) (i : Int) (σ : St) (K : AV → St → Option Unit) : callK Try.prog 5 ann (d + 3) 11 [AV.ptr none, AV.int IntKind.i64 i] σ K =
    K (.tuple [.agg zs, .int .i64 6]) ((((σ.new (.cells zs true)).new (.cells zs true)).new (.cells zs true)).put σ.next (.cells zs true)) := by
  have h1 : ((((σ.new (.cells zs true)).new (.cells zs true)).new (.cells zs true)).st σ.next 0 zs) = some ((((σ.new (.cells zs true)).new (.cells zs true)).new (.cells zs true)).put σ.next (.cells zs true)) := by
    rw [St.st_of (cs := zs) _ (by rw [St.get_new, if_neg (by simp only [St.next_new]; omega), St.get_new, if_neg (by simp only [St.next_new]; omega), St.get_new, if_pos rfl]) 0 zs (Nat.le_refl _), St.splice_all _ _ rfl]
  rw [callK_succ, f11_eq, see_nil]
  simp only [AV.toTuple, AV.toAgg, AV.toInt, AV.toStr, Option.bind_some, List.head?_cons, List.tail_cons, List.length_cons, List.length_nil, Nat.zero_add, Nat.reduceAdd, if_true, st_new,
    Int.reduceBEq, Bool.false_eq_true, if_false, f11K0_eq, St.ld_new_self, List.getElem?_cons_zero, List.getElem?_cons_succ, h1, St.ld_put_self]

theorem copy_nil (d : Nat) (i : Int) (σ : St) (K : AV → St → Option Unit) : callK Try.prog 5 ann (d + 3) 14 [AV.ptr none, AV.int IntKind.i64 i] σ K =
    K (.int .i64 6) ((σ.new (.cells zs true)).new (.cells zs true)) := by
  rw [callK_succ, f14_eq, see_nil]
  simp only [AV.toTuple, AV.toAgg, AV.toInt, AV.toStr, Option.bind_some, List.head?_cons, List.tail_cons, List.length_cons, List.length_nil, Nat.zero_add, Nat.reduceAdd, if_true, st_new,
    Int.reduceBNe]

theorem end_zero (d : Nat) (σ : St) (K : AV → St → Option Unit) : callK Try.prog 5 ann (d + 1) 21 [AV.int IntKind.i64 0] σ K = K (.bool true) σ := by kernel_rfl
theorem older_nil (d : Nat) (i : Int) (σ : St) (K : AV → St → Option Unit) : callK Try.prog 5 ann (d + 3) 20 [.ptr none, .int .i64 i] σ K = K (.int .i64 0) σ := by kernel_rfl
theorem between_nil (d : Nat) (i : Int) (σ : St) (K : AV → St → Option Unit) : callK Try.prog 5 ann (d + 3) 16 [.ptr none, .int .i64 i, .int .i64 i] σ K = K (.slice none 0 (some 0) 1) σ := by kernel_rfl
theorem dropped_nil (d : Nat) (σ : St) (K : AV → St → Option Unit) : callK Try.prog 5 ann (d + 1) 15 [.ptr none] σ K = K (.int .i64 0) σ := by kernel_rfl
theorem put_nil (d : Nat) (σ : St) (K : AV → St → Option Unit) : callK Try.prog 5 ann (d + 2) 10 [.ptr none, .agg zs] σ K = K (.int .i64 5) (σ.new (.cells zs true)) := by
  have hs : (ByteArray.mk #[]).size = 0 := rfl
  have h1 : decide (((0 : Nat) : Int) > 1048576) = false := rfl
  rw [callK_succ, f10_eq]
  simp only [AV.toInt, AV.toStr, AV.toBool, Option.bind_some, St.ld_new_self, List.getElem?_cons_zero, List.getElem?_cons_succ, if_true, end_zero, Bool.not_true, Bool.false_eq_true, if_false, hs,
    Int.lt_irrefl, decide_false, h1, Option.isNone_none, f10K1_eq]

def heap0 : St := (((((((((((St.mk Heap.leaf 0).new (.cells zs true)).new (.cells zs true)).new (.cells zs true)).put 0 (.cells zs true)).new (.cells zs true)).new (.cells zs true)).new (.cells zs true)).new (.cells zs true)).new (.cells zs true)).new (.cells zs true))
theorem last : callK Try.prog 5 ann 11 9 [] heap0 (fun v σ => v.toBool.bind fun b => yes (.bool b) σ) = some () := by kernel_rfl

theorem run' (d : Nat) (i : Int) (σ : St) (K : AV → St → Option Unit) : callK Try.prog 5 ann (d + 4) 7 [.int .i64 i] σ K =
    callK Try.prog 5 ann (d + 3) 9 [] ((((((((((σ.new (.cells zs true)).new (.cells zs true)).new (.cells zs true)).put σ.next (.cells zs true)).new (.cells zs true)).new (.cells zs true)).new (.cells zs true)).new (.cells zs true)).new (.cells zs true)).new (.cells zs true))
      (fun v σ => v.toBool.bind fun b => K (.bool b) σ) := by
  have h0 : (((0 : Nat) : Int) == 0) = true := rfl
  rw [callK_succ, f7_eq, pick_nil]
  simp only [AV.toTuple, AV.toAgg, AV.toInt, AV.toStr, Option.bind_some, List.head?_cons, List.tail_cons, List.length_cons, List.length_nil, Nat.zero_add, Nat.reduceAdd, if_true, st_new, see_nil, put_nil, copy_nil, Int.reduceBEq,
    between_nil, older_nil, dropped_nil, len_nil, AV.toSl, h0]

theorem run (i : Int) : callK Try.prog 5 ann (8 + 4) 7 [.int .i64 i] ⟨.leaf, 0⟩ yes = some () := by
  rw [run']
  exact last

theorem own : ownKnob Try.prog.godebug = none := by kernel_rfl
theorem laidOut : laidOutB Try.prog = true := by kernel_rfl

theorem lifted (os : Os) (started : os.Started) (H : Type) (enc : TypeId × Value → H) :
    ReturnsInHanded {} Try.checked os 7 .any (Rows.bagNilSpec.pre6 enc Try.prog Try.f7 Rows.bagNilRow.domain false) (Rows.bagNilSpec.post enc Try.prog Try.f7 false true false false) := by
  refine law_lifted (C := Try.checked) (fn := Try.f7) (s := Rows.bagNilSpec) (rt := 4) own started (by kernel_rfl) Try.func7
    (ChangeSpec.witness6 (enc := enc) (C := Try.checked) false ⟨#[], #[.int .i64 0], []⟩ 8 (by kernel_rfl) (by kernel_rfl) (by kernel_rfl) (by kernel_rfl)) laidOut rfl ?_ (by kernel_rfl) Try.underlying4 ?_ ?_
  · intro ds h
    match ds, h with
    | [d], _ => rfl
  · intro t ht
    have : t = 3 := by simpa [Try.params7] using ht
    subst this
    exact ⟨by kernel_rfl, of_decide_eq_true (by kernel_rfl)⟩
  · intro W args ds p hA hval
    have hA' : DataW.TrodAll enc Try.prog W 0 (fun _ => true) true Try.f7.params.toList args.toList ds p := hA
    rw [Try.params7] at hA'
    obtain ⟨v0, vs0, d0, ds0, p0, q0, hargs, rfl, rfl, h0, r0⟩ := trodAll_cons hA'
    obtain ⟨rfl, rfl, rfl⟩ := trodAll_nil r0
    obtain rfl : args = #[v0] := by cases args; simp_all
    obtain ⟨base, hv⟩ := hval 0 3 v0 (by rw [show Try.f7.params = #[3] from Try.params7]; rfl) rfl
    obtain ⟨i, rfl, rfl, rfl, w0⟩ := open_int Try.underlying3 hv h0
    exact calls_yes (by kernel_rfl) (run i) (Sim.empty W) (fun _ _ => rfl) (.cons _ _ _ _ (.int _ _) .nil)

theorem over : Rows.bagNilRow.holds Try.pinned (OpenSpec.ofChange Rows.bagNilSpec) :=
  OpenClaim.holds_of_wide 7 Try.f7 rfl rfl rfl rfl rfl rfl rfl ⟨rfl, rfl, rfl, rfl, rfl⟩ rfl rfl rfl rfl rfl (by kernel_rfl) Try.func7 (by kernel_rfl)
    (of_decide_eq_true (by kernel_rfl)) (by unfold Func.isWrapper; first | (rw [if_pos (by decide +kernel)]; kernel_rfl) | (rw [if_neg (by decide +kernel)]; exact ⟨rfl, rfl⟩))
    (fun os started H enc _ => lifted os started H enc)

end BagNil

/-- The row. -/
theorem bagNil_holds : Rows.BagNilSaid := BagNil.over
#print axioms bagNil_holds
end Go.Proofs.Ytdebkakkeaanaaa
