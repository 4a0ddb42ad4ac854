/- nest.Unpack, at a text that does not begin with a text. -/
import Derived.RangeFuncNested
import Derived.RangeFuncBound
import Derived.RangeFuncCalls
import Derived.RangeFuncLeaves
import Derived.Shelf.Abstract
import Derived.Shelf.RegionOpen
import Derived.WalkKit
import Derived.OwnWalkIn
import Derived.TacticsInMore
import Derived.LoopNIn
import Derived.LoopIn
import Derived.Test.YtikpakgffldgdaaGreatDoorPL3
namespace Go.Proofs
open Go.RowKit Go.Shelf
attribute [local go_sem] Oper.semAt_some

theorem grownN {w w' : World} (h : Below w.heap.size w w') : w.grownBy w' none := ⟨h.os, h.tape, h.output, h.size, fun k hk _ => h.block k hk⟩

set_option maxHeartbeats 4000000 in
set_option maxRecDepth 1000000 in
theorem Tryz.texts_stops (s : ByteArray) (hs : s.size ≤ 1099511627) (ht : takeL s = none) (hne : s ≠ ⟨#[]⟩) (Bn : Nat) (w : World) (hBn : Bn < w.heap.size) (hc : w.cell? ⟨Bn, 0, none⟩ = some (.string s)) (hg : Good w) :
    SeqStopsK Fence.wide 2 Tryz.prog 185 #[.pointer (some ⟨Bn, 0, none⟩)] (fun _ : Unit => #[Value.string ⟨#[]⟩, .int .i64 4]) KeepsWalks (fun xs => xs = [()]) (fun pre => pre = [()]) 1 w := fun l J Jx W hW hJ hJx hY h0 => by
  have hcW : W.cell? ⟨Bn, 0, none⟩ = some (.string s) := (hW.cell (p := ⟨Bn, 0, none⟩) hBn).trans hc
  have cT : CallsIn Fence.wide 1 Tryz.prog 186 #[.string s] W fun e w' => e = .returned (.tuple #[.string ⟨#[]⟩, .string ⟨#[]⟩, .int .i64 4]) ∧ Below W.heap.size W w' :=
    callsIn_wide.2 ((Tryz.take_ok s hs W (hg.below hW)).mono fun e w' q => ⟨by rw [q.1, ht]; rfl, q.2⟩)
  refine callsIn_of_wp Tryz.func185 rfl trivial ?_ rfl
  simp only [Tryz.ntmps185, List.size_toArray, List.length_cons, List.length_nil, Nat.reduceAdd, Nat.reduceSub, Array.replicate_succ, Array.replicate_zero, List.push_toArray, List.append_toArray, List.nil_append, List.cons_append]
  gi_wp2
  gi_loopw [] (fun wr => wr = W) (fun _ => 0)
  case atStart => rfl
  case round =>
    subst hrel
    have hsne : (s.toList == []) = false := by
      rw [Lib.toList_data]
      simp only [beq_eq_false_iff_ne, ne_eq]
      intro e; apply hne; apply ByteArray.ext; simpa using e
    gi_wp2
    refine ⟨trivial, ?_⟩
    gi_at_call 186
    refine cT.mono ?_
    rintro e W1 ⟨rfl, b1⟩
    have hJ1 : J [] W1 := hJ [] wr W1 none h0 (grownN b1) (fun r e => by cases e)
    obtain ⟨fn, tmps, assign, body, hy, hR⟩ := hY [] () W1 hJ1 (by simp)
    gi_wp2
    refine hR.mono ?_
    rintro e W2 (⟨rfl, hJ2, hk2⟩ | ⟨rfl, hx2⟩)
    · gi_wp2
      refine bodyPost_ret (results_none rfl _ _ _) rfl ?_
      exact ⟨⟨_, rfl⟩, .inl ⟨[()], rfl, hJ2⟩⟩
    · gi_wp2
      refine bodyPost_ret (results_none rfl _ _ _) rfl ?_
      exact ⟨⟨_, rfl⟩, .inr ⟨[()], rfl, hx2⟩⟩

theorem cell_box {W : World} {B : Nat} {v : Value} {t : TypeId} (h : W.heap[B]? = some (.cells #[v] t (0, 0))) : W.cell? ⟨B, 0, none⟩ = some v ∧ W.frozen? ⟨B, 0, none⟩ = false := by
  constructor <;> simp [World.cell?, World.frozen?, h]
theorem cell_new (W : World) (v : Value) (t : TypeId) : (W.alloc (.cells #[v] t)).cell? ⟨W.heap.size, 0, none⟩ = some v ∧ (W.alloc (.cells #[v] t)).frozen? ⟨W.heap.size, 0, none⟩ = false := by
  exact cell_box (World.alloc_heap_new W _)
theorem cell_old {W : World} {a : Addr} {v : Value} (o : Obj) (h : W.cell? a = some v) : (W.alloc o).cell? a = some v := cell_kept h (World.grownBy_alloc W o none) (fun r e => by cases e)
theorem frozen_old {W : World} {a : Addr} {v : Value} (o : Obj) (h : W.cell? a = some v) (hf : W.frozen? a = false) : (W.alloc o).frozen? a = false := (frozen_kept h (World.grownBy_alloc W o none) (fun r e => by cases e)).trans hf

theorem Tryz.texts_fn (s : ByteArray) (w : World) : Calls Tryz.prog 117 #[.string s] w fun e w' => e = .returned (.func (.func 185) #[] #[.pointer (some ⟨w.heap.size, 0, none⟩)]) ∧ w' = w.alloc (.cells #[.string s] 9) := by
  go_enter Tryz.func117, Tryz.ntmps117
  go_wp2
  go_ret
  exact ⟨rfl, rfl⟩

set_option maxHeartbeats 4000000 in
set_option maxRecDepth 1000000 in
theorem Tryz.unpack_bad (s : ByteArray) (hs : s.size ≤ 1099511627) (ht : takeL s = none) (hne : s ≠ ⟨#[]⟩) (w : World) (hg : Good w) :
    Calls Tryz.prog 68 #[.string s] w fun e w' => e = .returned (.tuple #[.slice none 0 0, .int .i64 4]) ∧ Below w.heap.size w w' := by
  refine (callsIn_wide (n := 3)).1 ?_
  refine callsIn_of_wp_marks Tryz.func68 rfl trivial ?_ rfl
  simp only [Tryz.ntmps68, List.size_toArray, List.length_cons, List.length_nil, Nat.reduceAdd, Nat.reduceSub, Array.replicate_succ, Array.replicate_zero, List.push_toArray, List.append_toArray, List.nil_append, List.cons_append]
  gi_wp2
  refine ⟨trivial, ?_⟩
  gi_at_call 117
  refine (callsIn_wide.2 (Tryz.texts_fn s _)).mono ?_
  rintro e W1 ⟨rfl, rfl⟩
  gi_wp2
  obtain ⟨w4, hw4⟩ : ∃ w4, (((w.alloc (Obj.cells #[Value.slice none 0 0] 45)).alloc (Obj.cells #[Value.int IntKind.i64 0] 46)).alloc (Obj.cells #[Value.slice none 0 0] 45)).alloc (Obj.cells #[Value.string s] 9) = w4 := ⟨_, rfl⟩
  have c0 := cell_new w (.slice none 0 0) 45
  have c1 := cell_new (w.alloc (.cells #[.slice none 0 0] 45)) (.int .i64 0) 46
  have c3 := cell_new (((w.alloc (.cells #[.slice none 0 0] 45)).alloc (.cells #[.int .i64 0] 46)).alloc (.cells #[.slice none 0 0] 45)) (.string s) 9
  simp only [World.size_alloc] at c1 c3
  have b4 : Below w.heap.size w w4 := by rw [← hw4]; exact ((((Below.refl _ w).alloc (Nat.le_refl _) _).alloc (by simp) _).alloc (by simp; omega) _).alloc (by simp; omega) _
  have z4 : w4.heap.size = w.heap.size + 4 := by rw [← hw4]; simp
  have c0' := c0
  have d0 : w4.cell? ⟨w.heap.size, 0, none⟩ = some (.slice none 0 0) ∧ w4.frozen? ⟨w.heap.size, 0, none⟩ = false := by
    rw [← hw4]
    exact ⟨cell_old _ (cell_old _ (cell_old _ c0.1)), frozen_old _ (cell_old _ (cell_old _ c0.1)) (frozen_old _ (cell_old _ c0.1) (frozen_old _ c0.1 c0.2))⟩
  have d1 : w4.cell? ⟨w.heap.size + 1, 0, none⟩ = some (.int .i64 0) ∧ w4.frozen? ⟨w.heap.size + 1, 0, none⟩ = false := by
    rw [← hw4]
    exact ⟨cell_old _ (cell_old _ c1.1), frozen_old _ (cell_old _ c1.1) (frozen_old _ c1.1 c1.2)⟩
  have d3 : w4.cell? ⟨w.heap.size + 1 + 1 + 1, 0, none⟩ = some (.string s) := by rw [← hw4]; exact c3.1
  rw [hw4]
  clear hw4 c0 c1 c3 c0'
  refine wpIn_rangeFunc_ownF rfl (by omega) (gf := 185) (lb := #[.pointer (some ⟨w.heap.size + 1 + 1 + 1, 0, none⟩)]) rfl trivial (enters_of Tryz.func185 (by kernel_rfl) rfl)
    (Tryz.texts_stops s hs ht hne (w.heap.size + 1 + 1 + 1) w4 (by omega) d3 (hg.below b4)) walksK_t walksK_b (Below.refl _ _) (fun _ => rfl)
    (fun pre W => (pre = [] ∧ (W.cell? ⟨w.heap.size, 0, none⟩ = some (.slice none 0 0) ∧ W.frozen? ⟨w.heap.size, 0, none⟩ = false) ∧ (W.cell? ⟨w.heap.size + 1, 0, none⟩ = some (.int .i64 0) ∧ W.frozen? ⟨w.heap.size + 1, 0, none⟩ = false)) ∧ Below w.heap.size w W)
    (fun c pre W => (c = .ret ∧ W.cell? ⟨w.heap.size, 0, none⟩ = some (.slice none 0 0) ∧ W.cell? ⟨w.heap.size + 1, 0, none⟩ = some (.int .i64 4)) ∧ Below w.heap.size w W)
    (OwnFrom.and (Own.from (fun s A B row hs hg hr => ⟨hs.1, ⟨cell_kept hs.2.1.1 hg hr, (frozen_kept hs.2.1.1 hg hr).trans hs.2.1.2⟩, ⟨cell_kept hs.2.2.1 hg hr, (frozen_kept hs.2.2.1 hg hr).trans hs.2.2.2⟩⟩) _) (ownFrom_below (Nat.le_refl _) (by omega)))
    (fun c => OwnFrom.and (Own.from (fun s A B row hs hg hr => ⟨hs.1, cell_kept hs.2.1 hg hr, cell_kept hs.2.2 hg hr⟩) _) (ownFrom_below (Nat.le_refl _) (by omega)))
    ⟨⟨rfl, d0, d1⟩, b4⟩
    (fun _ => { tmps := #[Value.string s, undef, Value.pointer (some { block := w.heap.size, off := 0 }), Value.pointer (some { block := w.heap.size + 1, off := 0 }), Value.pointer (some { block := w.heap.size + 1 + 1, off := 0 }), .string ⟨#[]⟩, .int .i64 4, Value.string s, Value.func (Fn.func 185) #[] #[Value.pointer (some { block := w.heap.size + 1 + 1 + 1, off := 0 })], .string ⟨#[]⟩, .int .i64 4, undef, undef, undef, undef, undef, undef, undef, undef], defers := [] }) ?assign ?body ?done ?stop
  case assign =>
    intro l x W K hK
    gi_wp2
    exact hK
  case body =>
    rintro l pre x W ⟨⟨rfl, ⟨h0, f0⟩, ⟨h1, f1⟩⟩, hb⟩ _
    gi_wp2
    have hlt0 := World.block_lt_of_cell? _ _ h0
    have hlt1 := World.block_lt_of_cell? _ _ h1
    refine ⟨(KeepsOthers.setCell _ _ _).trans (KeepsOthers.setCell _ _ _), ⟨rfl, ?_, ?_⟩, ?_⟩
    · rw [World.cell?_setCell_other _ _ _ _ (by intro e; injection e with e; omega)]
      exact World.cell?_setCell_same' _ _ _ (by rw [h0]; rfl)
    · exact World.cell?_setCell_same' _ _ _ (by rw [World.cell?_setCell_other _ _ _ _ (by intro e; injection e with e; omega), h1]; rfl)
    · exact (hb.setCell (p := ⟨w.heap.size, 0, none⟩) (Nat.le_refl _) _).setCell (p := ⟨w.heap.size + 1, 0, none⟩) (by simp) _
  case done =>
    rintro D ys W hD hy ⟨⟨hn, _⟩, _⟩ hK
    rw [hn] at hy; cases hy
  case stop =>
    rintro D c pre W hD _ ⟨⟨rfl, h0, h1⟩, hb⟩ hK
    gi_wp2
    refine ⟨by simp, .inl ⟨_, _, rfl, run_takeDeferred hK, ?_⟩⟩
    have hc5 := cell_kept h0 (grownBy_putObj' _ D (.deferred none)) (fun r e => by cases e; exact ⟨_, hK, rfl⟩)
    have hc6 := cell_kept h1 (grownBy_putObj' _ D (.deferred none)) (fun r e => by cases e; exact ⟨_, hK, rfl⟩)
    refine ⟨.tuple #[.slice none 0 0, .int .i64 4], ?_, rfl, hb.trans (belowK_b (w := w) (Nat.le_refl _) W D _ _ (by omega) hK rfl rfl)⟩
    simp [results, Tryz.f68, go_sem, hc5, hc6]
end Go.Proofs
