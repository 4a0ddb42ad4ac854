/- nest.Num, nest.Pack: what they write. -/
import Derived.Test.YtikpakgffldgdaaGreatDoorPL1
import Derived.Lib.LaidTab
import Derived.Lib.OthersKept
import Derived.WalkKit
import Derived.BigCall
namespace Go.Proofs
open Go.RowKit

/-- One text, packed. -/
def packOne (s : ByteArray) : List UInt8 := Lib.itoa s.size ++ 58 :: (s.data.toList ++ [44])
def packAll (l : List ByteArray) : List UInt8 := l.flatMap packOne

theorem below_grow (w : World) (k : Nat) (os : Array Obj) : Below w.heap.size w (Sort.grow (w.drewN k) os) := by
  refine ⟨rfl, rfl, rfl, ?_, fun j hj => ?_⟩
  · show _ ≤ (w.heap ++ os).size
    simp
  · show (w.heap ++ os)[j]? = _
    rw [Array.getElem?_append_left hj]
theorem below_le {B C : Nat} {w w' : World} (h : Below B w w') (hC : C ≤ B) : Below C w w' := ⟨h.os, h.tape, h.output, h.size, fun k hk => h.block k (by omega)⟩
theorem tab_below {P : Program} {w w' : World} {n : String} {k : IntKind} {zs : List Int} (h : Lib.TabIs P w n k zs) (hb : Below w.heap.size w w') : Lib.TabIs P w' n k zs := by
  unfold Lib.TabIs World.var? at *
  cases hg : P.globalNamed n with
  | none => rw [hg] at h; cases h
  | some g =>
    rw [hg] at h
    simp only [Option.bind_some] at h ⊢
    cases hh : w.heap[g]? with
    | none => rw [hh] at h; cases h
    | some o => rw [hb.block g (Array.getElem?_eq_some_iff.1 hh).1]; exact h
theorem atF_below {T e : TypeId} {B b : Nat} {p : Value} {bs : List Value} {w w' : World} (h : Lib.BuilderAtF T e B b p bs w) (hb : Below w.heap.size w w') : Lib.BuilderAtF T e B b p bs w' := by
  obtain ⟨h1, v, h2, h3, h4⟩ := h
  refine ⟨h1, v, ?_, ?_, h4⟩
  · rw [hb.block b (Array.getElem?_eq_some_iff.1 h2).1]; exact h2
  · obtain ⟨a, h3⟩ := h3
    refine ⟨a, ?_⟩
    rcases h3 with h3 | ⟨g, cap, cur, fz, q1, q2, q3, q4⟩
    · exact .inl h3
    · exact .inr ⟨g, cap, cur, fz, q1, q2, by rw [hb.block g (Array.getElem?_eq_some_iff.1 q3).1]; exact q3, q4⟩
theorem isF_below {T e : TypeId} {B b : Nat} {bs : List Value} {w w' : World} (h : Lib.IsBuilderF T e B b bs w) (hb : Below w.heap.size w w') : Lib.IsBuilderF T e B b bs w' :=
  h.elim (fun x => .inl (atF_below x hb)) (fun x => .inr (atF_below x hb))

theorem Tryz.num_ok (n : Int) (h0 : -9223372036854775808 ≤ n) (h1 : n ≤ 9223372036854775807) (w : World) (htab : Lib.TabIs Tryz.prog w "internal/strconv.uint64pow10" .u64 Lib.pow10Tab) :
    Calls Tryz.prog 110 #[.int .i64 n] w fun e w' => e = .returned (.string ⟨(Lib.itoa n).toArray⟩) ∧ Below w.heap.size w w' := by
  go_enter Tryz.func110, Tryz.ntmps110
  go_wp2_with (go_at_call 177; refine (Tryz.strconv_Itoa n h0 h1 w htab).mono ?_; rintro e W1 ⟨rfl, k, os, rfl⟩)
  go_ret
  exact ⟨rfl, below_grow w k os⟩

theorem packOne_len (s : ByteArray) : (packOne s).length = (Lib.itoa s.size).length + 1 + s.size + 1 := by
  simp only [packOne, List.length_append, List.length_cons, List.length_nil, Array.length_toList]
  show _ = _ + 1 + s.data.size + 1
  omega
theorem packAll_take {l : List ByteArray} {k : Nat} {s : ByteArray} (hs : l[k]? = some s) : packAll (l.take (k + 1)) = packAll (l.take k) ++ packOne s := by
  rw [List.take_add_one, hs]
  simp [packAll]
theorem packAll_le (l : List ByteArray) (k : Nat) : (packAll (l.take k)).length ≤ (packAll l).length := by
  have h : packAll l = packAll (l.take k) ++ packAll (l.drop k) := by
    unfold packAll; rw [← List.flatMap_append, List.take_append_drop]
  rw [h, List.length_append]; omega
theorem packAll_len (l : List ByteArray) : l.length ≤ (packAll l).length := by
  induction l with
  | nil => simp
  | cons a l ih =>
    have := packOne_len a
    simp only [packAll, List.flatMap_cons, List.length_cons, List.length_append] at ih ⊢
    omega
theorem one_size (s : ByteArray) : (({ data := (Lib.itoa s.size).toArray } : ByteArray) ++ { data := #[58] } ++ s ++ { data := #[44] }).size = (packOne s).length := by
  rw [packOne_len]
  simp only [ByteArray.size_append]
  rfl
theorem strCells_one (a : ByteArray) : Lib.byteCells (packOne a) = Lib.strCells (({ data := (Lib.itoa a.size).toArray } : ByteArray) ++ { data := #[58] } ++ a ++ { data := #[44] }) := by
  unfold packOne
  rw [Lib.strCells_eq]
  congr 1
  simp [ByteArray.data_append]

set_option maxHeartbeats 4000000 in
set_option maxRecDepth 1000000 in
theorem Tryz.pack_walk (l : List ByteArray) (p : Option Addr) (c : Nat) (w : World) (hl : ∀ i s, l[i]? = some s → ∃ a : Addr, p = some a ∧ a.block < w.heap.size ∧ w.cell? (a.add i) = some (.string s))
    (hb : (packAll l).length ≤ 1099511627776) (htab : Lib.TabIs Tryz.prog w "internal/strconv.uint64pow10" .u64 Lib.pow10Tab) :
    Calls Tryz.prog 111 #[.slice p l.length c] w fun e w' => e = .returned (.string ⟨(packAll l).toArray⟩) ∧ Below w.heap.size w w' := by
  go_enter Tryz.func111, Tryz.ntmps111
  go_wp2
  go_loopw [8] (fun iv wr => ∃ k : Nat, iv = .int .i64 k ∧ k ≤ l.length ∧ Lib.IsBuilderF 341 5 w.heap.size w.heap.size (Lib.byteCells (packAll (l.take k))) wr ∧ Below w.heap.size w wr) (fun iv _ => l.length - (intOf iv).toNat)
  case atStart =>
    refine ⟨0, rfl, by omega, Lib.IsBuilderF.of (Lib.fresh_isBuilder 341 5 w), (Below.refl _ w).alloc (Nat.le_refl _) _⟩
  case round =>
    obtain ⟨k, rfl, hk, hI, hbw⟩ := hrel
    have hsz : w.heap.size ≤ wr.heap.size := hbw.size
    by_cases hp : k < l.length
    · obtain ⟨s, hs⟩ : ∃ s, l[k]? = some s := ⟨_, List.getElem?_eq_getElem hp⟩
      obtain ⟨a, rfl, ha, hc⟩ := hl k s hs
      have hab : (a.add k).block = a.block := by unfold Addr.add; split <;> rfl
      have hcw : wr.cell? (a.add k) = some (.string s) := (hbw.cell (p := a.add k) (by rw [hab]; exact ha)).trans hc
      clear hab
      obtain ⟨ab, ao, asp⟩ := a
      have hll : l.length ≤ 1099511627776 := Nat.le_trans (packAll_len l) hb
      have htr := tab_below htab hbw
      have hlen : (packAll (l.take k)).length + (packOne s).length ≤ 1099511627776 := by
        have := packAll_le l (k + 1)
        rw [packAll_take hs, List.length_append] at this
        omega
      have hpk := packOne_len s
      have cN : Calls Tryz.prog 110 #[.int .i64 s.size] wr fun e w' => e = .returned (.string ⟨(Lib.itoa s.size).toArray⟩) ∧ Below wr.heap.size wr w' := Tryz.num_ok s.size (by omega) (by omega) wr htr
      clear hl htab hb
      go_wp2_with (go_at_call 110; refine cN.mono ?_; rintro e W1 ⟨rfl, b1⟩)
      have hI1 := isF_below hI b1
      refine (Tryz.WriteString w.heap.size w.heap.size _ _ _ hI1 ?_ (by have := b1.size; omega)).mono ?_
      · rw [Lib.byteCells_length, one_size]
        omega
      rintro e W2 ⟨rfl, h2, b2, k2⟩
      go_wp2
      go_roundw
      case rel =>
        refine ⟨k + 1, by go_num, by omega, ?_, (hbw.trans (below_le b1 hsz)).trans b2⟩
        rw [packAll_take hs, Lib.byteCells_append, strCells_one s]
        exact .inr h2
      case measure =>
        simp [intOf]; omega
    · have hkl : k = l.length := by omega
      subst hkl
      rw [List.take_length] at hI
      go_wp2_with (go_at_call 179; refine (Any.Builder_String_any_k Tryz.lays169 Tryz.Builder_Extra_169 w.heap.size w.heap.size (packAll l) _ hI hsz).mono ?_; rintro e W1 ⟨rfl, _, b1, _⟩)
      go_ret
      exact ⟨rfl, hbw.trans b1⟩
end Go.Proofs
