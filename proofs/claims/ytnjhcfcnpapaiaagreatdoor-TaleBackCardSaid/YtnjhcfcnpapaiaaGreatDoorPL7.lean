/- The library's writing method of a builder, at this program's numbers. -/
import Derived.Shelf.Strings.Builder1
import Derived.Shelf.Strings.BuilderK
import Derived.Test.YtnjhcfcnpapaiaaGreatDoorPShelf
import Derived.Test.YtnjhcfcnpapaiaaGreatDoorNM
import Derived.Lib.LaidTab
import Derived.Lib.OthersKept
import Derived.WalkKit
import Derived.BigCall
import Derived.Lib.AtoiErrMem
import Derived.RangeFuncNested
import Derived.RangeFuncBound
import Derived.RangeFuncCalls
import Derived.RangeFuncLeaves
import Derived.Shelf.Abstract
import Derived.Shelf.RegionOpen
import Derived.OwnWalkIn
import Derived.TacticsInMore
import Derived.LoopNIn
import Derived.LoopIn
import Derived.Maps.AppendAt
namespace Go.Proofs
open Go.Shelf Go.RowKit
def Tryz.l166r : Go.Shelf.Ren := ⟨fun | 166 => 32 | 240 => 65 | 276 => 111 | n => n, fun | 70 => 88 | 9 => 9 | 0 => 0 | 72 => 91 | 37 => 89 | 3 => 3 | 4 => 4 | 5 => 5 | 20 => 20 | 75 => 93 | 80 => 96 | 164 => 222 | n => n, fun | n => n⟩
theorem Tryz.l166 : Go.Proofs.Lays.n166 Tryz.prog Tryz.l166r := {
  mixed := by kernel_rfl
  f166 := Tryz.func32.trans (congrArg some (by kernel_rfl))
  f240 := Tryz.func65.trans (congrArg some (by kernel_rfl))
  f276 := Tryz.func111.trans (congrArg some (by kernel_rfl))
  t0 := Tryz.underlying0
  a0 := Tryz.isAgg0
  z0 := Tryz.sizeOf0
  v0 := Tryz.zeroValue0
  t3 := Tryz.underlying3
  a3 := Tryz.isAgg3
  z3 := Tryz.sizeOf3
  v3 := Tryz.zeroValue3
  t4 := Tryz.underlying4
  a4 := Tryz.isAgg4
  z4 := Tryz.sizeOf4
  v4 := Tryz.zeroValue4
  t9 := Tryz.underlying9
  a9 := Tryz.isAgg9
  z9 := Tryz.sizeOf9
  v9 := Tryz.zeroValue9
  t20 := Tryz.underlying20
  a20 := Tryz.isAgg20
  z20 := Tryz.sizeOf20
  v20 := Tryz.zeroValue20
  t37 := Tryz.underlying89
  a37 := Tryz.isAgg89
  z37 := Tryz.sizeOf89
  v37 := Tryz.zeroValue89
  t70 := Tryz.underlying88
  a70 := Tryz.isAgg88
  z70 := Tryz.sizeOf88
  v70 := Tryz.zeroValue88
  t72 := Tryz.underlying91
  a72 := Tryz.isAgg91
  z72 := Tryz.sizeOf91
  v72 := Tryz.zeroValue91
  t75 := Tryz.underlying93
  a75 := Tryz.isAgg93
  z75 := Tryz.sizeOf93
  v75 := Tryz.zeroValue93
  t164 := Tryz.underlying222
  a164 := Tryz.isAgg222
  z164 := Tryz.sizeOf222
  v164 := Tryz.zeroValue222 }
theorem Tryz.x166 : Builder.Extra Tryz.prog Tryz.l166r := {
  sizeBuilder := by kernel_rfl
  liesBuilder := by kernel_rfl
  t5 := Tryz.underlying5
  a5 := Tryz.isAgg5
  z5 := Tryz.sizeOf5
  v5 := Tryz.zeroValue5
  infoByte := by kernel_rfl
  cellsByte := by kernel_rfl
  sizeByte := by kernel_rfl
  neB5 := by decide }
theorem Tryz.WriteString (B b : Nat) (bs : List Value) (s : ByteArray) (w : World) (h : Lib.IsBuilderF 91 5 B b bs w) (hlen : bs.length + s.size ≤ 140737488355328) (hBw : B ≤ w.heap.size) :
    Calls Tryz.prog 32 #[.pointer (some ⟨b, 0, none⟩), .string s] w fun e w' => e = .returned (.tuple #[.int .i64 s.size, .nilIface]) ∧ (Lib.BuilderAtF 91 5 B b (.pointer (some ⟨b, 0, none⟩)) (bs ++ Lib.strCells s) w' ∧ Below B w w' ∧ Lib.OthersKept 5 (some b) w w') :=
  Any.Builder_WriteString_k Tryz.l166 Tryz.x166 B b bs s w h hlen hBw
end Go.Proofs

namespace Go.Proofs
open Go.RowKit

theorem below_grow (w : World) (k : Nat) (os : Array Obj) : Below w.heap.size w (Sort.grow (w.drewN k) os) := by
  refine ⟨rfl, rfl, rfl, ?_, fun j hj => ?_⟩
  · show _ ≤ (w.heap ++ os).size
    simp
  · show (w.heap ++ os)[j]? = _
    rw [Array.getElem?_append_left hj]
theorem below_le {B C : Nat} {w w' : World} (h : Below B w w') (hC : C ≤ B) : Below C w w' := ⟨h.os, h.tape, h.output, h.size, fun k hk => h.block k (by omega)⟩
theorem tab_below {P : Program} {w w' : World} {n : String} {k : IntKind} {zs : List Int} (h : Lib.TabIs P w n k zs) (hb : Below w.heap.size w w') : Lib.TabIs P w' n k zs := by
  unfold Lib.TabIs World.var? at *
  cases hg : P.globalNamed n with
  | none => rw [hg] at h; cases h
  | some g =>
    rw [hg] at h
    simp only [Option.bind_some] at h ⊢
    cases hh : w.heap[g]? with
    | none => rw [hh] at h; cases h
    | some o => rw [hb.block g (Array.getElem?_eq_some_iff.1 hh).1]; exact h
theorem atF_below {T e : TypeId} {B b : Nat} {p : Value} {bs : List Value} {w w' : World} (h : Lib.BuilderAtF T e B b p bs w) (hb : Below w.heap.size w w') : Lib.BuilderAtF T e B b p bs w' := by
  obtain ⟨h1, v, h2, h3, h4⟩ := h
  refine ⟨h1, v, ?_, ?_, h4⟩
  · rw [hb.block b (Array.getElem?_eq_some_iff.1 h2).1]; exact h2
  · obtain ⟨a, h3⟩ := h3
    refine ⟨a, ?_⟩
    rcases h3 with h3 | ⟨g, cap, cur, fz, q1, q2, q3, q4⟩
    · exact .inl h3
    · exact .inr ⟨g, cap, cur, fz, q1, q2, by rw [hb.block g (Array.getElem?_eq_some_iff.1 q3).1]; exact q3, q4⟩
theorem isF_below {T e : TypeId} {B b : Nat} {bs : List Value} {w w' : World} (h : Lib.IsBuilderF T e B b bs w) (hb : Below w.heap.size w w') : Lib.IsBuilderF T e B b bs w' :=
  h.elim (fun x => .inl (atF_below x hb)) (fun x => .inr (atF_below x hb))

theorem Tryz.num_ok (n : Int) (h0 : -9223372036854775808 ≤ n) (h1 : n ≤ 9223372036854775807) (w : World) (htab : Lib.TabIs Tryz.prog w "internal/strconv.uint64pow10" .u64 Lib.pow10Tab) :
    Calls Tryz.prog 27 #[.int .i64 n] w fun e w' => e = .returned (.string ⟨(Lib.itoa n).toArray⟩) ∧ Below w.heap.size w w' := by
  go_enter Tryz.func27, Tryz.ntmps27
  go_wp2_with (go_at_call 62; refine (Tryz.strconv_Itoa n h0 h1 w htab).mono ?_; rintro e W1 ⟨rfl, k, os, rfl⟩)
  go_ret
  exact ⟨rfl, below_grow w k os⟩

theorem packOne_len (s : ByteArray) : (packOne s).length = (Lib.itoa s.size).length + 1 + s.size + 1 := by
  simp only [packOne, List.length_append, List.length_cons, List.length_nil, Array.length_toList]
  show _ = _ + 1 + s.data.size + 1
  omega
theorem packAll_take {l : List ByteArray} {k : Nat} {s : ByteArray} (hs : l[k]? = some s) : packAll (l.take (k + 1)) = packAll (l.take k) ++ packOne s := by
  rw [List.take_add_one, hs]
  simp [packAll]
theorem packAll_le (l : List ByteArray) (k : Nat) : (packAll (l.take k)).length ≤ (packAll l).length := by
  have h : packAll l = packAll (l.take k) ++ packAll (l.drop k) := by
    unfold packAll; rw [← List.flatMap_append, List.take_append_drop]
  rw [h, List.length_append]; omega
theorem packAll_len (l : List ByteArray) : l.length ≤ (packAll l).length := by
  induction l with
  | nil => simp
  | cons a l ih =>
    have := packOne_len a
    simp only [packAll, List.flatMap_cons, List.length_cons, List.length_append] at ih ⊢
    omega
theorem one_size (s : ByteArray) : (({ data := (Lib.itoa s.size).toArray } : ByteArray) ++ { data := #[58] } ++ s ++ { data := #[44] }).size = (packOne s).length := by
  rw [packOne_len]
  simp only [ByteArray.size_append]
  rfl
theorem strCells_one (a : ByteArray) : Lib.byteCells (packOne a) = Lib.strCells (({ data := (Lib.itoa a.size).toArray } : ByteArray) ++ { data := #[58] } ++ a ++ { data := #[44] }) := by
  unfold packOne
  rw [Lib.strCells_eq]
  congr 1
  simp [ByteArray.data_append]

set_option maxHeartbeats 4000000 in
set_option maxRecDepth 1000000 in
theorem Tryz.pack_walk (l : List ByteArray) (p : Option Addr) (c : Nat) (w : World) (hl : ∀ i s, l[i]? = some s → ∃ a : Addr, p = some a ∧ a.block < w.heap.size ∧ w.cell? (a.add i) = some (.string s))
    (hb : (packAll l).length ≤ 1099511627776) (htab : Lib.TabIs Tryz.prog w "internal/strconv.uint64pow10" .u64 Lib.pow10Tab) :
    Calls Tryz.prog 15 #[.slice p l.length c] w fun e w' => e = .returned (.string ⟨(packAll l).toArray⟩) ∧ Below w.heap.size w w' := by
  go_enter Tryz.func15, Tryz.ntmps15
  go_wp2
  go_loopw [8] (fun iv wr => ∃ k : Nat, iv = .int .i64 k ∧ k ≤ l.length ∧ Lib.IsBuilderF 91 5 w.heap.size w.heap.size (Lib.byteCells (packAll (l.take k))) wr ∧ Below w.heap.size w wr) (fun iv _ => l.length - (intOf iv).toNat)
  case atStart =>
    refine ⟨0, rfl, by omega, Lib.IsBuilderF.of (Lib.fresh_isBuilder 91 5 w), (Below.refl _ w).alloc (Nat.le_refl _) _⟩
  case round =>
    obtain ⟨k, rfl, hk, hI, hbw⟩ := hrel
    have hsz : w.heap.size ≤ wr.heap.size := hbw.size
    by_cases hp : k < l.length
    · obtain ⟨s, hs⟩ : ∃ s, l[k]? = some s := ⟨_, List.getElem?_eq_getElem hp⟩
      obtain ⟨a, rfl, ha, hc⟩ := hl k s hs
      have hab : (a.add k).block = a.block := by unfold Addr.add; split <;> rfl
      have hcw : wr.cell? (a.add k) = some (.string s) := (hbw.cell (p := a.add k) (by rw [hab]; exact ha)).trans hc
      clear hab
      obtain ⟨ab, ao, asp⟩ := a
      have hll : l.length ≤ 1099511627776 := Nat.le_trans (packAll_len l) hb
      have htr := tab_below htab hbw
      have hlen : (packAll (l.take k)).length + (packOne s).length ≤ 1099511627776 := by
        have := packAll_le l (k + 1)
        rw [packAll_take hs, List.length_append] at this
        omega
      have hpk := packOne_len s
      have cN : Calls Tryz.prog 27 #[.int .i64 s.size] wr fun e w' => e = .returned (.string ⟨(Lib.itoa s.size).toArray⟩) ∧ Below wr.heap.size wr w' := Tryz.num_ok s.size (by omega) (by omega) wr htr
      clear hl htab hb
      go_wp2_with (go_at_call 27; refine cN.mono ?_; rintro e W1 ⟨rfl, b1⟩)
      have hI1 := isF_below hI b1
      refine (Tryz.WriteString w.heap.size w.heap.size _ _ _ hI1 ?_ (by have := b1.size; omega)).mono ?_
      · rw [Lib.byteCells_length, one_size]
        omega
      rintro e W2 ⟨rfl, h2, b2, k2⟩
      go_wp2
      go_roundw
      case rel =>
        refine ⟨k + 1, by go_num, by omega, ?_, (hbw.trans (below_le b1 hsz)).trans b2⟩
        rw [packAll_take hs, Lib.byteCells_append, strCells_one s]
        exact .inr h2
      case measure =>
        simp [intOf]; omega
    · have hkl : k = l.length := by omega
      subst hkl
      rw [List.take_length] at hI
      go_wp2_with (go_at_call 33; refine (Any.Builder_String_any_k Tryz.lays169 Tryz.Builder_Extra_169 w.heap.size w.heap.size (packAll l) _ hI hsz).mono ?_; rintro e W1 ⟨rfl, _, b1, _⟩)
      go_ret
      exact ⟨rfl, hbw.trans b1⟩
end Go.Proofs

namespace Go.Proofs
open Go.RowKit

/-- What the program's variables must hold. -/
structure Good (w : World) : Prop where
  tab : Lib.TabIs Tryz.prog w "internal/strconv.uint64pow10" .u64 Lib.pow10Tab
  syn : ∃ te pe, w.cell? ⟨0, 0, none⟩ = some (.iface te pe)
  rng : ∃ te pe, w.cell? ⟨1, 0, none⟩ = some (.iface te pe)
  big : ∃ m, w.cell? ⟨4, 0, none⟩ = some (.int .i64 m)
theorem cell_below {w w' : World} {a : Addr} {v : Value} (h : w.cell? a = some v) (hb : Below w.heap.size w w') : w'.cell? a = some v :=
  (hb.cell (World.block_lt_of_cell? _ _ h)).trans h
theorem Good.below {w w' : World} (h : Good w) (hb : Below w.heap.size w w') : Good w' := by
  obtain ⟨h1, ⟨t2, p2, h2⟩, ⟨t3, p3, h3⟩, ⟨m, h4⟩⟩ := h
  exact ⟨tab_below h1 hb, ⟨t2, p2, cell_below h2 hb⟩, ⟨t3, p3, cell_below h3 hb⟩, ⟨m, cell_below h4 hb⟩⟩

def numRes : Option Int → Value
  | some v => .tuple #[.int .i64 v, .int .i64 0]
  | none => .tuple #[.int .i64 0, .int .i64 4]

theorem below_bytes (w : World) (e : TypeId) (t : ByteArray) : Below w.heap.size w (Lib.bytesWorld w e t) :=
  Lib.bytesWorld_below w e t
theorem bytes_eq {l : List UInt8} {s : ByteArray} (h : l = s.data.toList) : (⟨l.toArray⟩ : ByteArray) = s := by subst h; rfl
theorem bytes_ne {l : List UInt8} {s : ByteArray} (h : l ≠ s.data.toList) : (⟨l.toArray⟩ : ByteArray) ≠ s := fun e => h (by subst e; rfl)

theorem atoi_i64 {l : List UInt8} {v : Int} (h : Lib.atoiAll l = .ok v) : -9223372036854775808 ≤ v ∧ v ≤ 9223372036854775807 := by
  unfold Lib.atoiAll at h
  split at h
  · cases h
  · simp only at h
    split at h
    · cases h
    · cases h
    · split at h
      · cases h
      · split at h
        · cases h
        · injection h with h
          subst h
          split <;> omega

set_option maxHeartbeats 2000000 in
set_option maxRecDepth 1000000 in
theorem Tryz.toNum_ok (s : ByteArray) (hs : s.size ≤ 281474976710656) (w : World) (hg : Good w) :
    Calls Tryz.prog 35 #[.string s] w fun e w' => e = .returned (numRes (toNumL s)) ∧ Below w.heap.size w w' := by
  obtain ⟨t2, p2, h2⟩ := hg.syn
  obtain ⟨t3, p3, h3⟩ := hg.rng
  rcases ha : Lib.atoiAll s.data.toList with v | _ | _
  · obtain ⟨hv0, hv1⟩ := atoi_i64 ha
    have cA : Calls Tryz.prog 68 #[.string s] w fun e w' => e = .returned (.tuple #[.int .i64 v, .nilIface]) ∧ Below w.heap.size w w' :=
      (Tryz.strconv_Atoi_ok s (by omega) v ha w).mono fun e w' h => ⟨h.1, h.2.elim (fun h => h ▸ Below.refl _ _) (fun ⟨t, h⟩ => h ▸ below_bytes _ _ _)⟩
    go_enter Tryz.func35, Tryz.ntmps35
    have hgt := fun W1 (b1 : Below w.heap.size w W1) => (hg.below b1).tab
    clear hg h2 h3
    go_wp2_with (first | (go_at_call 68; refine cA.mono ?_; rintro e W1 ⟨rfl, b1⟩) | (go_at_call 27; refine (Tryz.num_ok v hv0 hv1 _ (hgt _ b1)).mono ?_; rintro e W2 ⟨rfl, b2⟩))
    · rename_i h
      go_ret2
      refine ⟨?_, b1.trans (below_le b2 b1.size)⟩
      rw [toNumL, ha]
      simp only
      rw [if_neg]
      · rfl
      · intro e; rw [Lib.toList_data, e] at h; simp at h
    · rename_i h
      go_ret2
      refine ⟨?_, b1.trans (below_le b2 b1.size)⟩
      rw [toNumL, ha]
      simp only
      rw [if_pos]
      · rfl
      · rw [Lib.toList_data] at h; simpa using h
  · go_enter Tryz.func35, Tryz.ntmps35
    go_wp2_with (go_at_call 68; refine (Any.strconv_Atoi_syntax Tryz.laysC172 s hs ha _ w h2 (.inr ⟨_, _, rfl⟩)).mono ?_; rintro e W1 ⟨N, rfl, _, _, b1⟩)
    go_ret2
    exact ⟨by rw [toNumL, ha]; rfl, b1⟩
  · go_enter Tryz.func35, Tryz.ntmps35
    go_wp2_with (go_at_call 68; refine (Any.strconv_Atoi_range Tryz.laysC172 s hs ha _ w h3 (.inr ⟨_, _, rfl⟩)).mono ?_; rintro e W1 ⟨N, rfl, _, _, b1⟩)
    go_ret2
    exact ⟨by rw [toNumL, ha]; rfl, b1⟩

def takeRes : Option (ByteArray × ByteArray) → Value
  | some (a, b) => .tuple #[.string a, .string b, .int .i64 0]
  | none => .tuple #[.string ⟨#[]⟩, .string ⟨#[]⟩, .int .i64 4]

theorem cut_len {l sep h r : List UInt8} {f : Bool} (hc : Lib.cut l sep = (h, r, f)) : h.length ≤ l.length ∧ r.length ≤ l.length := by
  unfold Lib.cut at hc
  split at hc
  · injection hc with h1 h2; injection h2 with h2 h3; subst h1 h2; simp <;> omega
  · injection hc with h1 h2; injection h2 with h2 h3; subst h1 h2; simp <;> omega

theorem ext_take (r : List UInt8) (k : Nat) : (⟨r.toArray⟩ : ByteArray).extract 0 k = ⟨(r.take k).toArray⟩ := by
  apply ByteArray.ext
  simp
theorem ext_drop (r : List UInt8) (k : Nat) : (⟨r.toArray⟩ : ByteArray).extract k r.length = ⟨(r.drop k).toArray⟩ := by
  apply ByteArray.ext
  simp
  exact List.take_of_length_le (by simp)
theorem at44 {r : List UInt8} {k : Nat} (h : k < (⟨r.toArray⟩ : ByteArray).size) : ((((⟨r.toArray⟩ : ByteArray)[k]'h).toNat : Int) != 44) = false ↔ r[k]? = some 44 := by
  have hk : k < r.length := by simpa [ByteArray.size] using h
  have e : (⟨r.toArray⟩ : ByteArray)[k]'h = r[k]'hk := rfl
  rw [e, List.getElem?_eq_getElem hk, bne_eq_false_iff_eq, Option.some_inj]
  constructor
  · intro q
    have : (r[k]'hk).toNat = 44 := by omega
    exact UInt8.toNat_inj.1 this
  · intro q
    rw [q]; rfl
theorem takeL_bad {s : ByteArray} {h r : List UInt8} {f : Bool} {n : Int} (hc : Lib.cut s.data.toList [58] = (h, r, f)) (ho : toNumL ⟨h.toArray⟩ = some n) (hb : ¬ (f = true ∧ h.length ≤ 9 ∧ 0 ≤ n ∧ n < r.length ∧ r[n.toNat]? = some 44)) : takeL s = none := by
  unfold takeL; rw [hc]; simp only [ho]; rw [if_neg hb]
theorem takeL_ok {s : ByteArray} {h r : List UInt8} {f : Bool} {n : Int} (hc : Lib.cut s.data.toList [58] = (h, r, f)) (ho : toNumL ⟨h.toArray⟩ = some n) (hb : (f = true ∧ h.length ≤ 9 ∧ 0 ≤ n ∧ n < r.length ∧ r[n.toNat]? = some 44)) : takeL s = some (⟨(r.take n.toNat).toArray⟩, ⟨(r.drop (n.toNat + 1)).toArray⟩) := by
  unfold takeL; rw [hc]; simp only [ho]; rw [if_pos hb]

set_option maxHeartbeats 4000000 in
set_option maxRecDepth 1000000 in
theorem Tryz.take_ok (s : ByteArray) (hs : s.size ≤ 1099511627) (w : World) (hg : Good w) :
    Calls Tryz.prog 67 #[.string s] w fun e w' => e = .returned (takeRes (takeL s)) ∧ Below w.heap.size w w' := by
  obtain ⟨m, hm⟩ := hg.big
  obtain ⟨h, r, f, hc⟩ : ∃ h r f, Lib.cut s.data.toList [58] = (h, r, f) := ⟨_, _, _, rfl⟩
  have cC : Calls Tryz.prog 112 #[.string s, .string ⟨#[58]⟩] w fun e w' => e = .returned (.tuple #[.string ⟨h.toArray⟩, .string ⟨r.toArray⟩, .bool f]) ∧ Below w.heap.size w w' :=
    (Tryz.strings_Cut s ⟨#[58]⟩ m w (by omega) hm).mono fun e w' q => ⟨by rw [q.1]; show Ending.returned (Value.tuple #[.string ⟨(Lib.cut s.data.toList [58]).1.toArray⟩, .string ⟨(Lib.cut s.data.toList [58]).2.1.toArray⟩, .bool (Lib.cut s.data.toList [58]).2.2]) = _; rw [hc], by
      obtain ⟨n, rfl⟩ := q.2; exact ⟨rfl, rfl, rfl, Nat.le_refl _, fun _ _ => rfl⟩⟩
  have hgt := fun W1 (b1 : Below w.heap.size w W1) => hg.below b1
  obtain ⟨o, ho⟩ : ∃ o, toNumL ⟨h.toArray⟩ = o := ⟨_, rfl⟩
  have cT : ∀ W1, Below w.heap.size w W1 → Calls Tryz.prog 35 #[.string ⟨h.toArray⟩] W1 fun e w' => e = .returned (numRes o) ∧ Below W1.heap.size W1 w' := fun W1 b1 => ho ▸ Tryz.toNum_ok ⟨h.toArray⟩ (by have := cut_len hc; show h.toArray.size ≤ _; simp; have : s.data.toList.length = s.size := rfl; omega) W1 (hgt W1 b1)
  have htn : o = none → takeL s = none := by intro e; unfold takeL; rw [hc]; simp only [ho, e]
  have hrl : r.length ≤ 1099511627 := by have := (cut_len hc).2; have e : s.data.toList.length = s.size := rfl; omega
  clear hg hm hgt
  go_enter Tryz.func67, Tryz.ntmps67
  cases o with
  | none =>
    go_wp2_with (first | (go_at_call 112; refine cC.mono ?_; rintro e W1 ⟨rfl, b1⟩) | (go_at_call 35; refine (cT _ b1).mono ?_; rintro e W2 ⟨rfl, b2⟩; simp only [numRes]))
    all_goals
      go_ret3
      exact ⟨by rw [htn trivial]; rfl, b1.trans (below_le b2 b1.size)⟩
  | some n =>
    go_wp2_with (first | (go_at_call 112; refine cC.mono ?_; rintro e W1 ⟨rfl, b1⟩) | (go_at_call 35; refine (cT _ b1).mono ?_; rintro e W2 ⟨rfl, b2⟩; simp only [numRes]))
    · rename_i k0 k1 k2 k3 k4
      go_ret3
      refine ⟨?_, b1.trans (below_le b2 b1.size)⟩
      rw [takeL_bad hc ho]
      · rfl
      · intro q
        rcases k4 with ((e | e) | e) | e
        · have := q.2.1; omega
        · omega
        · omega
        · rw [(at44 _).2 q.2.2.2.2] at e; cases e
    · rename_i k0 k1 k2 k3 k4 k5 k6
      have f1 : wrap64 (n + 1) = n + 1 := by unfold wrap64; omega
      have f2 : 0 ≤ n + 1 := by omega
      have f3 : n + 1 ≤ (r.length : Int) := by omega
      have f4 : n ≤ (r.length : Int) := by omega
      go_region
      go_wp2
      go_ret3
      refine ⟨?_, b1.trans (below_le b2 b1.size).drew⟩
      rw [takeL_ok hc ho ⟨k0, by omega, k2, k3, ?_⟩]
      · show _ = Ending.returned (Value.tuple #[.string _, .string _, .int .i64 0])
        rw [ext_take, ext_drop]
        rw [show (n + 1).toNat = n.toNat + 1 by omega]
        rfl
      · exact (at44 _).1 k4.2
    all_goals
      rename_i kk
      go_ret3
      refine ⟨?_, b1.trans (below_le b2 b1.size)⟩
      rw [takeL_bad hc ho (fun q => ?_)]
      · rfl
      · first | (exact kk q.1) | (have := q.2.1; have := q.2.2.1; have := q.2.2.2.1; omega)
end Go.Proofs

namespace Go.Proofs
open Go.RowKit Go.Shelf
attribute [local go_sem] Oper.semAt_some

theorem grownN {w w' : World} (h : Below w.heap.size w w') : w.grownBy w' none := ⟨h.os, h.tape, h.output, h.size, fun k hk _ => h.block k hk⟩

set_option maxHeartbeats 4000000 in
set_option maxRecDepth 1000000 in
theorem Tryz.texts_stops (s : ByteArray) (hs : s.size ≤ 1099511627) (ht : takeL s = none) (hne : s ≠ ⟨#[]⟩) (Bn : Nat) (w : World) (hBn : Bn < w.heap.size) (hc : w.cell? ⟨Bn, 0, none⟩ = some (.string s)) (hg : Good w) :
    SeqStopsK Fence.wide 2 Tryz.prog 66 #[.pointer (some ⟨Bn, 0, none⟩)] (fun _ : Unit => #[Value.string ⟨#[]⟩, .int .i64 4]) KeepsWalks (fun xs => xs = [()]) (fun pre => pre = [()]) 1 w := fun l J Jx W hW hJ hJx hY h0 => by
  have hcW : W.cell? ⟨Bn, 0, none⟩ = some (.string s) := (hW.cell (p := ⟨Bn, 0, none⟩) hBn).trans hc
  have cT : CallsIn Fence.wide 1 Tryz.prog 67 #[.string s] W fun e w' => e = .returned (.tuple #[.string ⟨#[]⟩, .string ⟨#[]⟩, .int .i64 4]) ∧ Below W.heap.size W w' :=
    callsIn_wide.2 ((Tryz.take_ok s hs W (hg.below hW)).mono fun e w' q => ⟨by rw [q.1, ht]; rfl, q.2⟩)
  refine callsIn_of_wp Tryz.func66 rfl trivial ?_ rfl
  simp only [Tryz.ntmps66, List.size_toArray, List.length_cons, List.length_nil, Nat.reduceAdd, Nat.reduceSub, Array.replicate_succ, Array.replicate_zero, List.push_toArray, List.append_toArray, List.nil_append, List.cons_append]
  gi_wp2
  gi_loopw [] (fun wr => wr = W) (fun _ => 0)
  case atStart => rfl
  case round =>
    subst hrel
    have hsne : (s.toList == []) = false := by
      rw [Lib.toList_data]
      simp only [beq_eq_false_iff_ne, ne_eq]
      intro e; apply hne; apply ByteArray.ext; simpa using e
    gi_wp2
    refine ⟨trivial, ?_⟩
    gi_at_call 67
    refine cT.mono ?_
    rintro e W1 ⟨rfl, b1⟩
    have hJ1 : J [] W1 := hJ [] wr W1 none h0 (grownN b1) (fun r e => by cases e)
    obtain ⟨fn, tmps, assign, body, hy, hR⟩ := hY [] () W1 hJ1 (by simp)
    gi_wp2
    refine hR.mono ?_
    rintro e W2 (⟨rfl, hJ2, hk2⟩ | ⟨rfl, hx2⟩)
    · gi_wp2
      refine bodyPost_ret (results_none rfl _ _ _) rfl ?_
      exact ⟨⟨_, rfl⟩, .inl ⟨[()], rfl, hJ2⟩⟩
    · gi_wp2
      refine bodyPost_ret (results_none rfl _ _ _) rfl ?_
      exact ⟨⟨_, rfl⟩, .inr ⟨[()], rfl, hx2⟩⟩

theorem cell_box {W : World} {B : Nat} {v : Value} {t : TypeId} (h : W.heap[B]? = some (.cells #[v] t (0, 0))) : W.cell? ⟨B, 0, none⟩ = some v ∧ W.frozen? ⟨B, 0, none⟩ = false := by
  constructor <;> simp [World.cell?, World.frozen?, h]
theorem cell_new (W : World) (v : Value) (t : TypeId) : (W.alloc (.cells #[v] t)).cell? ⟨W.heap.size, 0, none⟩ = some v ∧ (W.alloc (.cells #[v] t)).frozen? ⟨W.heap.size, 0, none⟩ = false := by
  exact cell_box (World.alloc_heap_new W _)
theorem cell_old {W : World} {a : Addr} {v : Value} (o : Obj) (h : W.cell? a = some v) : (W.alloc o).cell? a = some v := cell_kept h (World.grownBy_alloc W o none) (fun r e => by cases e)
theorem frozen_old {W : World} {a : Addr} {v : Value} (o : Obj) (h : W.cell? a = some v) (hf : W.frozen? a = false) : (W.alloc o).frozen? a = false := (frozen_kept h (World.grownBy_alloc W o none) (fun r e => by cases e)).trans hf

theorem Tryz.texts_fn (s : ByteArray) (w : World) : Calls Tryz.prog 34 #[.string s] w fun e w' => e = .returned (.func (.func 66) #[] #[.pointer (some ⟨w.heap.size, 0, none⟩)]) ∧ w' = w.alloc (.cells #[.string s] 9) := by
  go_enter Tryz.func34, Tryz.ntmps34
  go_wp2
  go_ret
  exact ⟨rfl, rfl⟩

set_option maxHeartbeats 4000000 in
set_option maxRecDepth 1000000 in
theorem Tryz.unpack_bad (s : ByteArray) (hs : s.size ≤ 1099511627) (ht : takeL s = none) (hne : s ≠ ⟨#[]⟩) (w : World) (hg : Good w) :
    Calls Tryz.prog 16 #[.string s] w fun e w' => e = .returned (.tuple #[.slice none 0 0, .int .i64 4]) ∧ Below w.heap.size w w' := by
  refine (callsIn_wide (n := 3)).1 ?_
  refine callsIn_of_wp_marks Tryz.func16 rfl trivial ?_ rfl
  simp only [Tryz.ntmps16, List.size_toArray, List.length_cons, List.length_nil, Nat.reduceAdd, Nat.reduceSub, Array.replicate_succ, Array.replicate_zero, List.push_toArray, List.append_toArray, List.nil_append, List.cons_append]
  gi_wp2
  refine ⟨trivial, ?_⟩
  gi_at_call 34
  refine (callsIn_wide.2 (Tryz.texts_fn s _)).mono ?_
  rintro e W1 ⟨rfl, rfl⟩
  gi_wp2
  obtain ⟨w4, hw4⟩ : ∃ w4, (((w.alloc (Obj.cells #[Value.slice none 0 0] 43)).alloc (Obj.cells #[Value.int IntKind.i64 0] 30)).alloc (Obj.cells #[Value.slice none 0 0] 43)).alloc (Obj.cells #[Value.string s] 9) = w4 := ⟨_, rfl⟩
  have c0 := cell_new w (.slice none 0 0) 43
  have c1 := cell_new (w.alloc (.cells #[.slice none 0 0] 43)) (.int .i64 0) 30
  have c3 := cell_new (((w.alloc (.cells #[.slice none 0 0] 43)).alloc (.cells #[.int .i64 0] 30)).alloc (.cells #[.slice none 0 0] 43)) (.string s) 9
  simp only [World.size_alloc] at c1 c3
  have b4 : Below w.heap.size w w4 := by rw [← hw4]; exact ((((Below.refl _ w).alloc (Nat.le_refl _) _).alloc (by simp) _).alloc (by simp; omega) _).alloc (by simp; omega) _
  have z4 : w4.heap.size = w.heap.size + 4 := by rw [← hw4]; simp
  have c0' := c0
  have d0 : w4.cell? ⟨w.heap.size, 0, none⟩ = some (.slice none 0 0) ∧ w4.frozen? ⟨w.heap.size, 0, none⟩ = false := by
    rw [← hw4]
    exact ⟨cell_old _ (cell_old _ (cell_old _ c0.1)), frozen_old _ (cell_old _ (cell_old _ c0.1)) (frozen_old _ (cell_old _ c0.1) (frozen_old _ c0.1 c0.2))⟩
  have d1 : w4.cell? ⟨w.heap.size + 1, 0, none⟩ = some (.int .i64 0) ∧ w4.frozen? ⟨w.heap.size + 1, 0, none⟩ = false := by
    rw [← hw4]
    exact ⟨cell_old _ (cell_old _ c1.1), frozen_old _ (cell_old _ c1.1) (frozen_old _ c1.1 c1.2)⟩
  have d3 : w4.cell? ⟨w.heap.size + 1 + 1 + 1, 0, none⟩ = some (.string s) := by rw [← hw4]; exact c3.1
  rw [hw4]
  clear hw4 c0 c1 c3 c0'
  refine wpIn_rangeFunc_ownF rfl (by omega) (gf := 66) (lb := #[.pointer (some ⟨w.heap.size + 1 + 1 + 1, 0, none⟩)]) rfl trivial (enters_of Tryz.func66 (by kernel_rfl) rfl)
    (Tryz.texts_stops s hs ht hne (w.heap.size + 1 + 1 + 1) w4 (by omega) d3 (hg.below b4)) walksK_t walksK_b (Below.refl _ _) (fun _ => rfl)
    (fun pre W => (pre = [] ∧ (W.cell? ⟨w.heap.size, 0, none⟩ = some (.slice none 0 0) ∧ W.frozen? ⟨w.heap.size, 0, none⟩ = false) ∧ (W.cell? ⟨w.heap.size + 1, 0, none⟩ = some (.int .i64 0) ∧ W.frozen? ⟨w.heap.size + 1, 0, none⟩ = false)) ∧ Below w.heap.size w W)
    (fun c pre W => (c = .ret ∧ W.cell? ⟨w.heap.size, 0, none⟩ = some (.slice none 0 0) ∧ W.cell? ⟨w.heap.size + 1, 0, none⟩ = some (.int .i64 4)) ∧ Below w.heap.size w W)
    (OwnFrom.and (Own.from (fun s A B row hs hg hr => ⟨hs.1, ⟨cell_kept hs.2.1.1 hg hr, (frozen_kept hs.2.1.1 hg hr).trans hs.2.1.2⟩, ⟨cell_kept hs.2.2.1 hg hr, (frozen_kept hs.2.2.1 hg hr).trans hs.2.2.2⟩⟩) _) (ownFrom_below (Nat.le_refl _) (by omega)))
    (fun c => OwnFrom.and (Own.from (fun s A B row hs hg hr => ⟨hs.1, cell_kept hs.2.1 hg hr, cell_kept hs.2.2 hg hr⟩) _) (ownFrom_below (Nat.le_refl _) (by omega)))
    ⟨⟨rfl, d0, d1⟩, b4⟩
    (fun _ => { tmps := #[Value.string s, undef, Value.pointer (some { block := w.heap.size, off := 0 }), Value.pointer (some { block := w.heap.size + 1, off := 0 }), Value.pointer (some { block := w.heap.size + 1 + 1, off := 0 }), .string ⟨#[]⟩, .int .i64 4, Value.string s, Value.func (Fn.func 66) #[] #[Value.pointer (some { block := w.heap.size + 1 + 1 + 1, off := 0 })], .string ⟨#[]⟩, .int .i64 4, undef, undef, undef, undef, undef, undef, undef, undef], defers := [] }) ?assign ?body ?done ?stop
  case assign =>
    intro l x W K hK
    gi_wp2
    exact hK
  case body =>
    rintro l pre x W ⟨⟨rfl, ⟨h0, f0⟩, ⟨h1, f1⟩⟩, hb⟩ _
    gi_wp2
    have hlt0 := World.block_lt_of_cell? _ _ h0
    have hlt1 := World.block_lt_of_cell? _ _ h1
    refine ⟨(KeepsOthers.setCell _ _ _).trans (KeepsOthers.setCell _ _ _), ⟨rfl, ?_, ?_⟩, ?_⟩
    · rw [World.cell?_setCell_other _ _ _ _ (by intro e; injection e with e; omega)]
      exact World.cell?_setCell_same' _ _ _ (by rw [h0]; rfl)
    · exact World.cell?_setCell_same' _ _ _ (by rw [World.cell?_setCell_other _ _ _ _ (by intro e; injection e with e; omega), h1]; rfl)
    · exact (hb.setCell (p := ⟨w.heap.size, 0, none⟩) (Nat.le_refl _) _).setCell (p := ⟨w.heap.size + 1, 0, none⟩) (by simp) _
  case done =>
    rintro D ys W hD hy ⟨⟨hn, _⟩, _⟩ hK
    rw [hn] at hy; cases hy
  case stop =>
    rintro D c pre W hD _ ⟨⟨rfl, h0, h1⟩, hb⟩ hK
    gi_wp2
    refine ⟨by simp, .inl ⟨_, _, rfl, run_takeDeferred hK, ?_⟩⟩
    have hc5 := cell_kept h0 (grownBy_putObj' _ D (.deferred none)) (fun r e => by cases e; exact ⟨_, hK, rfl⟩)
    have hc6 := cell_kept h1 (grownBy_putObj' _ D (.deferred none)) (fun r e => by cases e; exact ⟨_, hK, rfl⟩)
    refine ⟨.tuple #[.slice none 0 0, .int .i64 4], ?_, rfl, hb.trans (belowK_b (w := w) (Nat.le_refl _) W D _ _ (by omega) hK rfl rfl)⟩
    simp [results, Tryz.f16, go_sem, hc5, hc6]
end Go.Proofs

namespace Go.Proofs
open Go.RowKit
variable {F : Fence} {n : Nat} {P : Program}

/-- What a round leaves to the iterator: its own variable, and what lay there when the function began. -/
def BoxKept (n0 : Nat) (bx : Addr) (A B : World) : Prop := Below n0 A B ∧ ∀ v, A.cell? bx = some v → A.frozen? bx = false → B.cell? bx = some v ∧ B.frozen? bx = false

/-- The iterator's contract: the rounds' invariants stand whatever it writes into its own variable. -/
def SeqBox {α : Type} (F : Fence) (n : Nat) (P : Program) (g : Nat) (lb : Array Value) (encs : α → Array Value) (n0 : Nat) (bx : Addr) (S Sp : List α → Prop) (N : Nat) (st : World → Prop) : Prop :=
  ∀ (l : Nat) (J Jx : List α → World → Prop) (W : World), st W → AbidesFrom W.heap.size J → AbidesFrom W.heap.size Jx → (∀ pre V v, J pre V → J pre (V.setCell bx v)) →
    (∀ pre x W1, J pre W1 → pre.length < N → YieldAt F (n - 1) P l (encs x) W1 fun e W' =>
      (e = .returned (.bool true) ∧ J (pre ++ [x]) W' ∧ BoxKept n0 bx W1 W') ∨ (e = .returned (.bool false) ∧ Jx (pre ++ [x]) W')) →
    J [] W →
    CallsIn F n P g (#[.func (.yield l) #[] #[]] ++ lb) W fun e W' => (∃ v, e = .returned v) ∧ ((∃ xs, S xs ∧ J xs W') ∨ (∃ pre, Sp pre ∧ Jx pre W'))

/-- What is no cells stands where a cell is written. -/
theorem obj_setCell {W : World} {a : Addr} {v : Value} {k : Nat} {o : Obj} (h : W.heap[k]? = some o) (ho : o.isCells = false) : (W.setCell a v).heap[k]? = some o :=
  (KeepsOthers.setCell W a v).same k o h ho
theorem BoxKept.trans {n0 : Nat} {bx : Addr} {A B C : World} (h : BoxKept n0 bx A B) (k : BoxKept n0 bx B C) : BoxKept n0 bx A C :=
  ⟨h.1.trans k.1, fun v hv hf => k.2 v (h.2 v hv hf).1 (h.2 v hv hf).2⟩
theorem BoxKept.obj {n0 : Nat} {bx : Addr} {W : World} {l : Nat} {o : Obj} (hl : W.heap[l]? = some o) (ho : o.isCells = false) (hn : n0 ≤ l) (o' : Obj) : BoxKept n0 bx W (W.putObj l o') := by
  have hg := grownBy_putObj' W l o'
  have hr : ∀ r, some l = some r → ∃ o : Obj, W.heap[r]? = some o ∧ o.isCells = false := fun r e => by cases e; exact ⟨o, hl, ho⟩
  exact ⟨(Below.refl n0 W).grown hg (Nat.le_trans hn (Nat.le_of_lt (Array.getElem?_eq_some_iff.1 hl).1)) (fun k e => by cases e; exact hn), fun v hv hf => ⟨cell_kept hv hg hr, (frozen_kept hv hg hr).trans hf⟩⟩

/-- The law. -/
theorem range_box {α : Type} {g : Operand} {ps : Array Tmp} {assign body : Code} {Q : Exit → Act → World → Prop} {a : Act} {w : World}
    (hro : F.round = none) (h1 : 1 ≤ n) {gf : Nat} {lb : Array Value} (hg : a.eval g = .func (.func gf) #[] lb) (hFg : F.fn gf) (eg : ∀ args w, (callFunc gf args).run P w = .ok (.enter gf args) w)
    {encs : α → Array Value} {n0 : Nat} {bx : Addr} {S Sp : List α → Prop} {N : Nat} {st : World → Prop} (hseq : SeqBox F (n - 1) P gf lb encs n0 bx S Sp N st) (hn0 : n0 ≤ w.heap.size)
    (hst : ∀ W, Below w.heap.size w W → st W) (hps : ∀ x, (encs x).size = ps.size)
    (I : List α → World → Prop) (Ix : Code → List α → World → Prop) (hI : OwnFrom w.heap.size I) (hIx : ∀ c, OwnFrom w.heap.size (Ix c)) (hIb : ∀ pre V v, I pre V → I pre (V.setCell bx v)) (h0 : I [] w) (a₁ : α → Act)
    (hassign : ∀ (l : Nat) (x : α) (W : World) (K : Act → World → Prop), K (a₁ x) W →
      assign.wpIn (F.inRound l) (n - 1 - 1) P (Exit.then K (fun _ _ _ => False)) { tmps := (ps.zip (encs x)).foldl (fun t (p, v) => t.setIfInBounds p v) a.tmps, defers := [] } W)
    (hbody : ∀ (l : Nat) (pre : List α) (x : α) (W : World), I pre W → pre.length < N → body.wpIn (F.inRound l) (n - 1 - 1) P (ownPostK (BoxKept n0 bx) I Ix (pre ++ [x]) W) (a₁ x) W)
    (hdone : ∀ (D : Nat) (xs : List α) (W : World), w.heap.size ≤ D → S xs → I xs W → W.heap[D]? = some (.deferred (some [])) → Q .normal { a with defers := { target := .collected D, args := #[] } :: a.defers } W)
    (hstop : ∀ (D : Nat) (c : Code) (pre : List α) (W : World), w.heap.size ≤ D → Sp pre → Ix c pre W → W.heap[D]? = some (.deferred (some [])) → c.wpIn F n P Q { a with defers := { target := .collected D, args := #[] } :: a.defers } W) :
    (Code.rangeFunc g ps assign body).wpIn F n P Q a w := by
  refine wpIn_rangeFunc fun fn hfn => ?_
  rw [hro]
  -- the block of calls that are put off, the loop's record
  let D := w.heap.size
  let l := w.heap.size + 1
  let mk : LoopState → Option Code → Loop := fun s p => { state := s, pending := p, fn, tmps := a.tmps, params := ps, assign, body, defers := D }
  let W0 := (w.alloc (.deferred (some []))).alloc (.loop (mk .ready none))
  have b0 : Below w.heap.size w W0 := ((Below.refl _ w).alloc (Nat.le_refl _) _).alloc (by simp) _
  have rD : W0.heap[D]? = some (.deferred (some [])) := (Below.heap_alloc _ _ _ (by simp [D])).trans (World.alloc_heap_new w _)
  have rl : W0.heap[l]? = some (.loop (mk .ready none)) := by
    have := World.alloc_heap_new (w.alloc (.deferred (some []))) (.loop (mk .ready none))
    rwa [World.size_alloc] at this
  have z0 : W0.heap.size = w.heap.size + 2 := by simp [W0]
  have i0 : I [] W0 := hI.alloc _ (hI.alloc _ h0)
  refine ⟨l, [{ target := .collected D, args := #[] }], W0, { target := .fn (.func gf) lb, args := #[.func (.yield l) #[] #[]] }, W0, gf, #[.func (.yield l) #[] #[]] ++ lb, W0, run_enterLoop_outer _ _ _ _ _, ?_, ?_, ?_, fun _ => h1, ?_⟩
  · simp only [resolve, hg]
    simp [go_sem]
  · intro f' hf'
    simp [Target.leads] at hf'
    exact hf' ▸ hFg
  · simp [invoke, go_sem, eg]
  have low : ∀ {A : World} {row : Option Nat}, (∀ r, row = some r → W0.heap.size ≤ r ∧ ∃ o : Obj, A.heap[r]? = some o ∧ o.isWalk = true) → ∀ r, row = some r → w.heap.size ≤ r ∧ ∃ o : Obj, A.heap[r]? = some o ∧ o.isCells = false :=
    fun h r e => by
      obtain ⟨q1, o, q2, q3⟩ := h r e
      exact ⟨by omega, o, q2, Obj.not_cells_of_walk q3⟩
  have stays : ∀ {A B : World} {row : Option Nat} {k : Nat} {o : Obj}, A.grownBy B row → (∀ r, row = some r → W0.heap.size ≤ r ∧ ∃ o : Obj, A.heap[r]? = some o ∧ o.isWalk = true) → A.heap[k]? = some o → o.isWalk = false → B.heap[k]? = some o :=
    fun hgr hr ho hw => (grownBy_keeps hgr (fun r e => (hr r e).2) ho hw).trans ho
  refine (hseq l (fun pre W => I pre W ∧ W.heap[l]? = some (.loop (mk .ready none)) ∧ W.heap[D]? = some (.deferred (some [])))
    (fun pre W => ∃ c, Ix c pre W ∧ W.heap[l]? = some (.loop (mk .done (some c))) ∧ W.heap[D]? = some (.deferred (some []))) W0 (hst W0 b0) ?_ ?_ ?_ ?_ ⟨i0, rl, rD⟩).mono ?_
  · exact fun s A B row hs hgr hr => ⟨hI s A B row hs.1 hgr (low hr), stays hgr hr hs.2.1 rfl, stays hgr hr hs.2.2 rfl⟩
  · rintro s A B row ⟨c, q1, q2, q3⟩ hgr hr
    exact ⟨c, hIx c s A B row q1 hgr (low hr), stays hgr hr q2 rfl, stays hgr hr q3 rfl⟩
  · exact fun pre V v hs => ⟨hIb pre V v hs.1, obj_setCell hs.2.1 rfl, obj_setCell hs.2.2 rfl⟩
  · rintro pre x W ⟨q1, q2, q3⟩ hlen
    have hlt : l < W.heap.size := (Array.getElem?_eq_some_iff.1 q2).1
    have hne : D ≠ l := by simp [D, l]
    have hy := run_yield (P := P) (args := encs x) q2 (hps x)
    refine ⟨fn, _, assign, body, hy, roundIn_of_wpIn hfn (hassign _ x W _ ⟨_, run_beginRound q2 rfl, ?_⟩)⟩
    have r2 : (W.putObj l (.loop { mk .ready none with state := .busy })).heap[l]? = some (.loop { mk .ready none with state := .busy }) := World.putObj_heap_same hlt
    have d2 : (W.putObj l (.loop { mk .ready none with state := .busy })).heap[D]? = some (.deferred (some [])) := (World.putObj_heap_other hne).trans q3
    have k2 : BoxKept n0 bx W (W.putObj l (.loop { mk .ready none with state := .busy })) := BoxKept.obj q2 rfl (by omega) _
    refine wpIn_mono (hbody _ pre x _ (hI.putObj _ q1 (by omega) q2 rfl) hlen) ?_
    have close : ∀ (j : Option Code) (V : World), KeepsOthers (W.putObj l (.loop { mk .ready none with state := .busy })) V →
        (Instr.endRound l j).run P V = .ok (.bool j.isNone) (V.putObj l (.loop (mk (if j.isNone then .ready else .done) j))) ∧ V.heap[l]? = some (.loop { mk .ready none with state := .busy }) ∧
        (V.putObj l (.loop (mk (if j.isNone then .ready else .done) j))).heap[l]? = some (.loop (mk (if j.isNone then .ready else .done) j)) ∧
        (V.putObj l (.loop (mk (if j.isNone then .ready else .done) j))).heap[D]? = some (.deferred (some [])) := by
      intro j V hk
      have r3 := hk.same _ _ r2 rfl
      exact ⟨run_endRound (P := P) j r3, r3, World.putObj_heap_same (Array.getElem?_eq_some_iff.1 r3).1, (World.putObj_heap_other hne).trans (hk.same _ _ d2 rfl)⟩
    rintro e a3 V hp
    cases e with
    | normal =>
      obtain ⟨p1, p2, p3⟩ := hp
      obtain ⟨c1, c2, c3, c4⟩ := close none V p1
      exact ⟨_, _, c1, .inl ⟨rfl, ⟨hI.putObj _ p3 (by omega) c2 rfl, c3, c4⟩, (k2.trans p2).trans (BoxKept.obj c2 rfl (by omega) _)⟩⟩
    | ret =>
      obtain ⟨p1, p2⟩ := hp
      obtain ⟨c1, c2, c3, c4⟩ := close (some .ret) V p1
      exact ⟨_, _, c1, .inr ⟨rfl, .ret, (hIx _).putObj _ p2 (by omega) c2 rfl, c3, c4⟩⟩
    | exit id =>
      obtain ⟨p1, p2⟩ := hp
      obtain ⟨c1, c2, c3, c4⟩ := close (some (.exit id)) V p1
      exact ⟨_, _, c1, .inr ⟨rfl, .exit id, (hIx _).putObj _ p2 (by omega) c2 rfl, c3, c4⟩⟩
    | goto t =>
      obtain ⟨p1, p2⟩ := hp
      obtain ⟨c1, c2, c3, c4⟩ := close (some (.goto t)) V p1
      exact ⟨_, _, c1, .inr ⟨rfl, .goto t, (hIx _).putObj _ p2 (by omega) c2 rfl, c3, c4⟩⟩
    | panic ch => exact hp.elim
    | outgrown => exact hp.elim
  · have hne : D ≠ l := by simp [D, l]
    rintro e V ⟨⟨v, rfl⟩, ⟨xs, q1, q2, q3, q4⟩ | ⟨pre, q1, c, q2, q3, q4⟩⟩
    · exact ⟨none, _, run_endLoop (P := P) q3 (by simp [mk]), hdone _ xs _ (Nat.le_refl _) q1 (hI.putObj _ q2 (by omega) q3 rfl) ((World.putObj_heap_other hne).trans q4)⟩
    · exact ⟨some c, _, run_endLoop (P := P) q3 (by simp [mk]), hstop _ c pre _ (Nat.le_refl _) q1 ((hIx c).putObj _ q2 (by omega) q3 rfl) ((World.putObj_heap_other hne).trans q4)⟩
end Go.Proofs

namespace Go.Proofs
open Go.RowKit Go.Shelf
attribute [local go_sem] Oper.semAt_some

theorem takeL_less {s t r : ByteArray} (h : takeL s = some (t, r)) : r.size < s.size := by
  unfold takeL at h
  obtain ⟨a, b, f, hc⟩ : ∃ a b f, Lib.cut s.data.toList [58] = (a, b, f) := ⟨_, _, _, rfl⟩
  rw [hc] at h
  simp only at h
  have hl := (cut_len hc).2
  split at h
  · split at h
    · rename_i n _ hb
      simp only [Option.some.injEq, Prod.mk.injEq] at h
      obtain ⟨_, rfl⟩ := h
      have e : s.data.toList.length = s.size := rfl
      show (b.drop (n.toNat + 1)).toArray.size < s.size
      simp
      omega
    · cases h
  · cases h
theorem Good.from {w w' : World} {B : Nat} (h : Good w) (hB : 4 < B) (hb : Below B w w') : Good w' := by
  obtain ⟨h1, ⟨t2, p2, h2⟩, ⟨t3, p3, h3⟩, ⟨m, h4⟩⟩ := h
  have hg : Tryz.prog.globalNamed "internal/strconv.uint64pow10" = some 3 := by kernel_rfl
  refine ⟨?_, ⟨t2, p2, (hb.cell (by show 0 < B; omega)).trans h2⟩, ⟨t3, p3, (hb.cell (by show 1 < B; omega)).trans h3⟩, ⟨m, (hb.cell (by show 4 < B; omega)).trans h4⟩⟩
  unfold Lib.TabIs World.var? at *
  rw [hg] at h1 ⊢
  simp only [Option.bind_some] at h1 ⊢
  rw [hb.block 3 (by omega)]; exact h1

theorem Good.lt {w : World} (h : Good w) : 4 < w.heap.size := by
  obtain ⟨h1, ⟨t2, p2, h2⟩, ⟨t3, p3, h3⟩, ⟨m, h4⟩⟩ := h
  have hg : Tryz.prog.globalNamed "internal/strconv.uint64pow10" = some 3 := by kernel_rfl
  have e1 : 4 < w.heap.size := World.block_lt_of_cell? _ _ h4
  have e2 : 0 < w.heap.size := World.block_lt_of_cell? _ _ h2
  have e3 : 1 < w.heap.size := World.block_lt_of_cell? _ _ h3
  have e4 : 3 < w.heap.size := by
    unfold Lib.TabIs World.var? at h1
    rw [hg] at h1
    simp only [Option.bind_some] at h1
    refine Nat.lt_of_not_le fun hge => ?_
    rw [Array.getElem?_eq_none hge] at h1
    cases h1
  omega

def boxLen (B : Nat) (w : World) : Nat := match w.cell? ⟨B, 0, none⟩ with | some (.string s) => s.size | _ => 0
theorem boxLen_eq {B : Nat} {w : World} {s : ByteArray} (h : w.cell? ⟨B, 0, none⟩ = some (.string s)) : boxLen B w = s.size := by unfold boxLen; rw [h]

set_option maxHeartbeats 4000000 in
set_option maxRecDepth 1000000 in
theorem Tryz.texts_box (s : ByteArray) (hs : s.size ≤ 1099511627) (n0 Bn : Nat) (hn0 : 4 < n0) (hB : n0 ≤ Bn) :
    SeqBox Fence.wide 2 Tryz.prog 66 #[.pointer (some ⟨Bn, 0, none⟩)] (fun x : ByteArray × Int => #[Value.string x.1, .int .i64 x.2]) n0 ⟨Bn, 0, none⟩ (fun xs => xs = seqL (s.size + 1) s) (fun pre => pre <+: seqL (s.size + 1) s) (seqL (s.size + 1) s).length
      (fun W => Good W ∧ W.cell? ⟨Bn, 0, none⟩ = some (.string s) ∧ W.frozen? ⟨Bn, 0, none⟩ = false) := fun l J Jx W ⟨hg, hc, hf⟩ hJ hJx hJb hY h0 => by
  have hBn : Bn < W.heap.size := World.block_lt_of_cell? _ _ hc
  refine callsIn_of_wp Tryz.func66 rfl trivial ?_ rfl
  simp only [Tryz.ntmps66, List.size_toArray, List.length_cons, List.length_nil, Nat.reduceAdd, Nat.reduceSub, Array.replicate_succ, Array.replicate_zero, List.push_toArray, List.append_toArray, List.nil_append, List.cons_append]
  gi_wp2
  gi_loopw [] (fun wr => ∃ pre cur f, wr.cell? ⟨Bn, 0, none⟩ = some (.string cur) ∧ wr.frozen? ⟨Bn, 0, none⟩ = false ∧ seqL (s.size + 1) s = pre ++ seqL f cur ∧ cur.size < f ∧ cur.size ≤ s.size ∧ J pre wr ∧ Good wr ∧ W.heap.size ≤ wr.heap.size)
    (fun wr => boxLen Bn wr)
  case atStart => exact ⟨[], s, s.size + 1, hc, hf, rfl, by omega, by omega, h0, hg, Nat.le_refl _⟩
  case round =>
    obtain ⟨pre, cur, f, hcur, hfr, hseq, hlt, hle, hJp, hgw, hsz⟩ := hrel
    obtain ⟨f, rfl⟩ : ∃ f', f = f' + 1 := ⟨f - 1, by omega⟩
    by_cases he : cur.data.toList = []
    · have hce : (cur.toList == []) = true := by rw [Lib.toList_data]; simpa using he
      gi_wp2
      go_end0
      have hx : seqL (s.size + 1) s = pre := by rw [hseq, seqL, if_pos he, List.append_nil]
      exact ⟨⟨_, rfl⟩, .inl ⟨_, rfl, by rw [hx]; exact hJp⟩⟩
    · have hce : (cur.toList == []) = false := by rw [Lib.toList_data]; simpa using he
      have cT : CallsIn Fence.wide 1 Tryz.prog 67 #[.string cur] wr fun e w' => e = .returned (takeRes (takeL cur)) ∧ Below wr.heap.size wr w' := callsIn_wide.2 (Tryz.take_ok cur (by omega) wr hgw)
      gi_wp2
      refine ⟨trivial, ?_⟩
      gi_at_call 67
      refine cT.mono ?_
      rintro e W1 ⟨rfl, b1⟩
      have hJ1 : J pre W1 := hJ pre wr W1 none hJp (grownN b1) (fun r e => by cases e)
      cases ht : takeL cur with
      | none =>
        simp only [takeRes]
        have hsq : seqL (s.size + 1) s = pre ++ [(⟨#[]⟩, 4)] := by rw [hseq, seqL, if_neg he, ht]
        obtain ⟨fn, tmps, assign, body, hy, hR⟩ := hY pre (⟨#[]⟩, 4) W1 hJ1 (by rw [hsq]; simp)
        gi_wp2
        refine hR.mono ?_
        rintro e W2 (⟨rfl, hJ2, hk2⟩ | ⟨rfl, hx2⟩)
        · gi_wp2
          refine bodyPost_ret (results_none rfl _ _ _) rfl ?_
          exact ⟨⟨_, rfl⟩, .inl ⟨_, rfl, by rw [hsq]; exact hJ2⟩⟩
        · gi_wp2
          refine bodyPost_ret (results_none rfl _ _ _) rfl ?_
          exact ⟨⟨_, rfl⟩, .inr ⟨_, by rw [hsq]; exact List.prefix_refl _, hx2⟩⟩
      | some q =>
        obtain ⟨t, r⟩ := q
        simp only [takeRes]
        have hsq : seqL (s.size + 1) s = (pre ++ [(t, 0)]) ++ seqL f r := by rw [hseq, seqL, if_neg he, ht]; simp
        have hless := takeL_less ht
        have hBw : Bn < wr.heap.size := World.block_lt_of_cell? _ _ hcur
        have hc1 : W1.cell? ⟨Bn, 0, none⟩ = some (.string cur) := (b1.cell (p := ⟨Bn, 0, none⟩) hBw).trans hcur
        have hf1 : W1.frozen? ⟨Bn, 0, none⟩ = false := (frozen_kept hcur (grownN b1) (fun r e => by cases e)).trans hfr
        have hg1 : Good W1 := hgw.below b1
        obtain ⟨fn, tmps, assign, body, hy, hR⟩ := hY pre (t, 0) W1 hJ1 (by rw [hsq]; simp)
        dsimp only at hy
        gi_wp2
        refine hR.mono ?_
        rintro e W2 (⟨rfl, hJ2, hk2⟩ | ⟨rfl, hx2⟩)
        · obtain ⟨hc2, hf2⟩ := hk2.2 _ hc1 hf1
          have hg2 : Good W2 := hg1.from hn0 hk2.1
          have hz2 : W.heap.size ≤ W2.heap.size := by have := b1.size; have := hk2.1.size; omega
          gi_wp2
          go_roundw
          case rel =>
            refine ⟨pre ++ [(t, 0)], r, f, World.cell?_setCell_same' _ _ _ (by rw [hc2]; rfl), by rw [World.frozen?_setCell]; exact hf2, hsq, by omega, by omega, hJb _ _ _ hJ2, ?_, by simpa using hz2⟩
            exact hg2.from hn0 ((Below.refl n0 W2).setCell (p := ⟨Bn, 0, none⟩) hB _)
          case measure =>
            rw [boxLen_eq (World.cell?_setCell_same' _ _ _ (by rw [hc2]; rfl)), boxLen_eq hcur]
            exact hless
        · gi_wp2
          refine bodyPost_ret (results_none rfl _ _ _) rfl ?_
          exact ⟨⟨_, rfl⟩, .inr ⟨_, by rw [hsq]; exact List.prefix_append _ _, hx2⟩⟩
end Go.Proofs

set_option linter.unusedVariables false
namespace Go.Proofs
open Go.RowKit Go.Shelf
attribute [local go_sem] Oper.semAt_some

theorem Tryz.info9 : (Tryz.prog.info? 9).map (fun i => (i.zero, i.size, i.bytes)) = some (some (.string ⟨#[]⟩), 1, 16) := by kernel_rfl

theorem ownsRow_base {W : World} {a b : Nat} {e : TypeId} {size : Nat} {v : Value} {k : Nat} {xs : List Value} (h : W.ownsRow a e size v k xs) (hb : b ≤ a) : W.ownsRow b e size v k xs := by
  refine ⟨h.1, h.2.imp id ?_⟩
  rintro ⟨g, cap, cur, q1, q2, q3⟩
  exact ⟨g, cap, cur, q1, by omega, q3⟩
theorem ownsRow_block {W : World} {a : Nat} {e : TypeId} {size : Nat} {v : Value} {k : Nat} {xs : List Value} (h : W.ownsRow a e size v k xs) (B : Nat) (hB : B < a) : some B ≠ v.ownBlock := by
  rcases h.2 with ⟨rfl, _⟩ | ⟨g, cap, cur, rfl, q, _⟩
  · simp [Value.ownBlock]
  · intro e; simp [Value.ownBlock] at e; omega
theorem Boxed.other {W : World} {B : Nat} {t : TypeId} {v : Value} (h : Boxed W B t v) {b : Nat} (hb : B ≠ b) (u : Value) : Boxed (W.setCell ⟨b, 0, none⟩ u) B t v :=
  h.kept (grownBy_setCell' W b u) (by simpa using hb)

theorem boxKept_of_block {n0 : Nat} {b : Nat} {A B : World} (hb : Below n0 A B) (h : b < A.heap.size → B.heap[b]? = A.heap[b]?) : BoxKept n0 ⟨b, 0, none⟩ A B := by
  refine ⟨hb, fun v hv hf => ?_⟩
  have h := h (World.block_lt_of_cell? _ _ hv)
  constructor
  · unfold World.cell? at hv ⊢; simp only [h]; exact hv
  · unfold World.frozen? at hf ⊢; simp only [h]; exact hf
theorem ownsRow_slice {W : World} {a : Nat} {e : TypeId} {size : Nat} {v : Value} {k : Nat} {xs : List Value} (h : W.ownsRow a e size v k xs) : ∃ o n c, v = .slice o n c := by
  rcases h.2 with ⟨rfl, _⟩ | ⟨g, cap, cur, rfl, _⟩
  · exact ⟨_, _, _, rfl⟩
  · exact ⟨_, _, _, rfl⟩

/-- What Unpack hands back. -/
def unpackRes (s : ByteArray) (w w' : World) (v : Value) : Prop :=
  match unpackL s with
  | some l => ∃ u, v = .tuple #[u, .int .i64 0] ∧ w'.ownsRow w.heap.size 9 1 u l.length (l.map Value.string) ∧ (u = .slice none 0 0 ↔ l = [])
  | none => v = .tuple #[.slice none 0 0, .int .i64 4]

/-- Between two rounds: out holds what has come. -/
def UpI (n : Nat) (w : World) (pre : List (ByteArray × Int)) (W : World) : Prop :=
  (∃ v, Boxed W (n + 2) 43 v ∧ W.ownsRow (n + 4) 9 1 v pre.length (pre.map fun x => Value.string x.1) ∧ (v = .slice none 0 0 ↔ pre = [])) ∧ Boxed W n 43 (.slice none 0 0) ∧ Boxed W (n + 1) 30 (.int .i64 0) ∧ (∀ x ∈ pre, x.2 = 0)
def UpX (n : Nat) (c : Code) (pre : List (ByteArray × Int)) (W : World) : Prop :=
  c = .ret ∧ ∃ x, x ∈ pre ∧ x.2 ≠ 0 ∧ Boxed W n 43 (.slice none 0 0) ∧ Boxed W (n + 1) 30 (.int .i64 x.2)
theorem boxed_cells {A B : World} {row : Option Nat} {b : Nat} {t : TypeId} {v : Value} (h : Boxed A b t v) (hg : A.grownBy B row) (hr : ∀ r, row = some r → ∃ o : Obj, A.heap[r]? = some o ∧ o.isCells = false) : Boxed B b t v :=
  h.kept hg (fun e => by
    obtain ⟨o, ho, hc⟩ := hr b e.symm
    rw [show A.heap[b]? = _ from h] at ho; cases ho; cases hc)
theorem upI_own (n : Nat) (w : World) : Own (UpI n w) := by
  rintro pre A B row ⟨h1, h2, h3, h4⟩ hg hr
  exact ⟨holdsRow_own (n + 4) (n + 2) 43 9 1 (fun pre : List (ByteArray × Int) => pre.length) (fun pre => pre.map fun x => Value.string x.1) (fun pre v => v = .slice none 0 0 ↔ pre = []) pre A B row h1 hg hr, boxed_cells h2 hg hr, boxed_cells h3 hg hr, h4⟩
theorem upX_own (n : Nat) (c : Code) : Own (UpX n c) := by
  rintro pre A B row ⟨h1, x, h2, h3, h4, h5⟩ hg hr
  exact ⟨h1, x, h2, h3, boxed_cells h4 hg hr, boxed_cells h5 hg hr⟩

set_option maxHeartbeats 8000000 in
set_option maxRecDepth 1000000 in
theorem Tryz.unpack_ok (s : ByteArray) (hs : s.size ≤ 1099511627) (w : World) (hg : Good w) (hw : 4 < w.heap.size) :
    Calls Tryz.prog 16 #[.string s] w fun e w' => ∃ v, e = .returned v ∧ unpackRes s w w' v ∧ Below w.heap.size w w' := by
  refine (callsIn_wide (n := 3)).1 ?_
  refine callsIn_of_wp_marks Tryz.func16 rfl trivial ?_ rfl
  simp only [Tryz.ntmps16, List.size_toArray, List.length_cons, List.length_nil, Nat.reduceAdd, Nat.reduceSub, Array.replicate_succ, Array.replicate_zero, List.push_toArray, List.append_toArray, List.nil_append, List.cons_append]
  obtain ⟨i0, hi, hz0, hz1, hz2⟩ := info_parts Tryz.info9
  gi_wp2
  refine ⟨trivial, ?_⟩
  gi_at_call 34
  refine (callsIn_wide.2 (Tryz.texts_fn s _)).mono ?_
  rintro e W1 ⟨rfl, rfl⟩
  gi_wp2
  obtain ⟨w4, hw4⟩ : ∃ w4, (((w.alloc (Obj.cells #[Value.slice none 0 0] 43)).alloc (Obj.cells #[Value.int IntKind.i64 0] 30)).alloc (Obj.cells #[Value.slice none 0 0] 43)).alloc (Obj.cells #[Value.string s] 9) = w4 := ⟨_, rfl⟩
  have d0 : Boxed w4 w.heap.size 43 (.slice none 0 0) := by
    rw [← hw4]; exact (((Boxed.new w 43 (.slice none 0 0)).alloc _).alloc _).alloc _
  have d1 : Boxed w4 (w.heap.size + 1) 30 (.int .i64 0) := by
    have := Boxed.new (w.alloc (.cells #[.slice none 0 0] 43)) 30 (.int .i64 0)
    rw [World.size_alloc] at this
    rw [← hw4]; exact (this.alloc _).alloc _
  have d2 : Boxed w4 (w.heap.size + 2) 43 (.slice none 0 0) := by
    have := Boxed.new ((w.alloc (.cells #[.slice none 0 0] 43)).alloc (.cells #[.int .i64 0] 30)) 43 (.slice none 0 0)
    rw [World.size_alloc, World.size_alloc] at this
    rw [← hw4]; exact this.alloc _
  have d3 : Boxed w4 (w.heap.size + 3) 9 (.string s) := by
    have := Boxed.new (((w.alloc (.cells #[.slice none 0 0] 43)).alloc (.cells #[.int .i64 0] 30)).alloc (.cells #[.slice none 0 0] 43)) 9 (.string s)
    rw [World.size_alloc, World.size_alloc, World.size_alloc] at this
    rw [← hw4]; exact this
  have b4 : Below w.heap.size w w4 := by rw [← hw4]; exact ((((Below.refl _ w).alloc (Nat.le_refl _) _).alloc (by simp) _).alloc (by simp; omega) _).alloc (by simp; omega) _
  have z4 : w4.heap.size = w.heap.size + 4 := by rw [← hw4]; simp
  have i4 : UpI w.heap.size w [] w4 := ⟨⟨_, d2, World.ownsRow_nil _ _ _ _, by simp⟩, d0, d1, fun _ h => by cases h⟩
  simp only [show w.heap.size + 1 + 1 = w.heap.size + 2 from rfl, show w.heap.size + 2 + 1 = w.heap.size + 3 from rfl] at *
  rw [hw4]
  clear hw4
  refine range_box rfl (by omega) (gf := 66) (lb := #[.pointer (some ⟨w.heap.size + 3, 0, none⟩)]) rfl trivial (enters_of Tryz.func66 (by kernel_rfl) rfl)
    (Tryz.texts_box s hs w.heap.size (w.heap.size + 3) hw (by omega)) (by omega)
    (fun W hb => ⟨hg.below ⟨by rw [hb.os, b4.os], by rw [hb.tape, b4.tape], by rw [hb.output, b4.output], by have := hb.size; have := b4.size; omega, fun k hk => by rw [hb.block k (by omega), b4.block k hk]⟩,
      (hb.cell (p := ⟨w.heap.size + 3, 0, none⟩) (by show w.heap.size + 3 < _; omega)).trans d3.cell, (by
        have : W.heap[w.heap.size + 3]? = w4.heap[w.heap.size + 3]? := hb.block _ (by omega)
        exact (show Boxed W (w.heap.size + 3) 9 (.string s) from this.trans d3).frozen)⟩) (fun _ => rfl)
    (fun pre W => UpI w.heap.size w pre W ∧ Below w.heap.size w W)
    (fun c pre W => UpX w.heap.size c pre W ∧ Below w.heap.size w W)
    (OwnFrom.and (Own.from (upI_own _ _) _) (ownFrom_below (Nat.le_refl _) (by omega)))
    (fun c => OwnFrom.and (Own.from (upX_own _ c) _) (ownFrom_below (Nat.le_refl _) (by omega)))
    (fun pre V v h => ?_)
    ⟨i4, b4⟩
    (fun x => { tmps := #[Value.string s, undef, Value.pointer (some { block := w.heap.size, off := 0 }), Value.pointer (some { block := w.heap.size + 1, off := 0 }), Value.pointer (some { block := w.heap.size + 2, off := 0 }), .string x.1, .int .i64 x.2, Value.string s, Value.func (Fn.func 66) #[] #[Value.pointer (some { block := w.heap.size + 3, off := 0 })], .string x.1, .int .i64 x.2, undef, undef, undef, undef, undef, undef, undef, undef], defers := [] }) ?assign ?body ?done ?stop
  · obtain ⟨⟨⟨u, h1, h2, h3⟩, h4, h5, h6⟩, hb⟩ := h
    exact ⟨⟨⟨u, h1.other (by omega) _, h2.kept (grownBy_setCell' V _ v) (.inr (ownsRow_block h2 _ (by omega)).symm), h3⟩, h4.other (by omega) _, h5.other (by omega) _, h6⟩, hb.setCell (p := ⟨w.heap.size + 3, 0, none⟩) (by show w.heap.size ≤ w.heap.size + 3; omega) _⟩
  case assign =>
    intro l x W K hK
    gi_wp2
    exact hK
  case body =>
    rintro l pre x W ⟨⟨⟨v, hv, hrow, hnil⟩, h0, h1, h6⟩, hB⟩ hlt
    have hlt : pre.length < s.size + 1 := Nat.lt_of_lt_of_le hlt (seq_len _ _)
    have c0 := h0.cell
    have f0 := h0.frozen
    have c1 := h1.cell
    have f1 := h1.frozen
    have c2 := hv.cell
    have f2 := hv.frozen
    have hsz := hB.size
    have hlt2 := hv.lt
    have hml : pre.length + 1 ≤ maxLen := by unfold maxLen; omega
    by_cases he : x.2 = 0
    · gi_wp2_with (gi_at_builtin; refine wpListIn_append_own _ rfl _ _ 43 rfl (w.heap.size + 4) 9 i0 (.string ⟨#[]⟩) 1 16 Tryz.underlying43 hi hz0 hz1 hz2 rfl (by decide) _ _ _ rfl (hrow.alloc _) ⟨W.heap.size, 0, none⟩ 1 1 [.string x.1] rfl rfl (cell_one_new _ _ _) (by simp [Value.oneCell']) hml (by omega) (by simp; omega) ?_; intro v' w1 hown' hgrow _; obtain ⟨g', cap', rfl⟩ := ownsRow_succ hown'; obtain ⟨hv1, hv2, hr2, hk2, hb2⟩ := hv.appended (by decide) (ownsRow_base hrow (by omega)) hsz (by omega) (ownsRow_base hown' (by omega)) hgrow; have hc1 := hv1.cell; have hf1 := hv1.frozen)
      have hne3 : some (w.heap.size + 3) ≠ v.ownBlock := ownsRow_block hrow _ (by omega)
      have hr4 : (w1.setCell ⟨w.heap.size + 2, 0, none⟩ (.slice (some ⟨g', 0, none⟩) (pre.length + 1) cap')).ownsRow (w.heap.size + 4) 9 1 (.slice (some ⟨g', 0, none⟩) (pre.length + 1) cap') (pre.length + 1) (pre.map (fun x => Value.string x.1) ++ [.string x.1]) :=
        hown'.kept (grownBy_setCell' w1 _ _) (.inr (hv1.not_row (by decide) hown').symm)
      refine ⟨hk2, boxKept_of_block hb2 fun hl => ?_, ⟨⟨_, hv2, by simpa using hr4, by simp⟩, ?_, ?_, ?_⟩, hB.trans hb2⟩
      · rw [(grownBy_setCell' w1 (w.heap.size + 2) _).block _ (by have := hgrow.size; simp at this; omega) (by simp), hgrow.block _ (by simp; omega) hne3]
        exact Below.heap_alloc W _ _ hl
      · exact ((h0.alloc _).kept hgrow (ownsRow_block hrow _ (by omega))).other (by omega) _
      · exact ((h1.alloc _).kept hgrow (ownsRow_block hrow _ (by omega))).other (by omega) _
      · intro y hy
        rcases List.mem_append.1 hy with hy | hy
        · exact h6 y hy
        · rw [List.mem_singleton.1 hy]; exact he
    · gi_wp2
      exact ⟨(KeepsOthers.setCell _ _ _).trans (KeepsOthers.setCell _ _ _), ⟨rfl, x, by simp, he, (h0.set _).other (by omega) _, (h1.other (by omega) _).set _⟩, (hB.setCell (p := ⟨w.heap.size, 0, none⟩) (Nat.le_refl _) _).setCell (p := ⟨w.heap.size + 1, 0, none⟩) (by simp) _⟩
  case done =>
    rintro D ys W hD rfl ⟨⟨⟨v, hv, hrow, hnil⟩, h0, h1, h6⟩, hB⟩ hK
    have c0 := h0.cell
    have f0 := h0.frozen
    have c1 := h1.cell
    have f1 := h1.frozen
    obtain ⟨o, k, c, rfl⟩ := ownsRow_slice hrow
    have c2 := hv.cell
    gi_wp2
    have b0 : Boxed ((W.setCell ⟨w.heap.size, 0, none⟩ (.slice o k c)).setCell ⟨w.heap.size + 1, 0, none⟩ (.int .i64 0)) w.heap.size 43 (.slice o k c) := (h0.set _).other (by omega) _
    have b1 : Boxed ((W.setCell ⟨w.heap.size, 0, none⟩ (.slice o k c)).setCell ⟨w.heap.size + 1, 0, none⟩ (.int .i64 0)) (w.heap.size + 1) 30 (.int .i64 0) := (h1.other (by omega) _).set _
    have bb : Below w.heap.size w ((W.setCell ⟨w.heap.size, 0, none⟩ (.slice o k c)).setCell ⟨w.heap.size + 1, 0, none⟩ (.int .i64 0)) := (hB.setCell (p := ⟨w.heap.size, 0, none⟩) (Nat.le_refl _) _).setCell (p := ⟨w.heap.size + 1, 0, none⟩) (by simp) _
    have hr1 := hrow.kept (grownBy_setCell' W w.heap.size (.slice o k c)) (.inr (ownsRow_block hrow _ (by omega)).symm)
    have hr2 := hr1.kept (grownBy_setCell' _ (w.heap.size + 1) (.int .i64 0)) (.inr (ownsRow_block hr1 _ (by omega)).symm)
    have hk1 : ((W.setCell ⟨w.heap.size, 0, none⟩ (.slice o k c)).setCell ⟨w.heap.size + 1, 0, none⟩ (.int .i64 0)).heap[D]? = some (.deferred (some [])) := obj_setCell (obj_setCell hK rfl) rfl
    generalize ((W.setCell ⟨w.heap.size, 0, none⟩ (.slice o k c)).setCell ⟨w.heap.size + 1, 0, none⟩ (.int .i64 0)) = V at *
    refine ⟨by simp, .inl ⟨_, _, rfl, run_takeDeferred hk1, ?_⟩⟩
    have hc5 := cell_kept b0.cell (grownBy_putObj' _ D (.deferred none)) (fun r e => by cases e; exact ⟨_, hk1, rfl⟩)
    have hc6 := cell_kept b1.cell (grownBy_putObj' _ D (.deferred none)) (fun r e => by cases e; exact ⟨_, hk1, rfl⟩)
    refine ⟨.tuple #[.slice o k c, .int .i64 0], ?_, _, rfl, ?_, bb.trans (belowK_b (w := w) (Nat.le_refl _) V D _ _ (by omega) hk1 rfl rfl)⟩
    · simp [results, Tryz.f16, go_sem, hc5, hc6]
    · have hu : unpackL s = some ((seqL (s.size + 1) s).map (·.1)) := by
        unfold unpackL
        rw [if_pos]
        rw [List.all_eq_true]
        intro x hx
        rw [h6 x hx]; rfl
      unfold unpackRes
      rw [hu]
      refine ⟨_, rfl, ?_, ?_⟩
      · have := ownsRow_base (ownsRow_putObj hr2 (.deferred none) hk1 rfl) (b := w.heap.size) (by omega)
        rw [List.length_map, List.map_map]
        exact this
      · rw [hnil]; simp
  case stop =>
    rintro D c pre W hD hp ⟨⟨rfl, x, hx, hne, h0, h1⟩, hb⟩ hK
    have hx2 : x ∈ seqL (s.size + 1) s := hp.subset hx
    have hx4 : x.2 = 4 := by
      rcases seq_err _ _ x hx2 with h | h
      · exact absurd h hne
      · rw [h]
    rw [hx4] at h1
    gi_wp2
    refine ⟨by simp, .inl ⟨_, _, rfl, run_takeDeferred hK, ?_⟩⟩
    have hc5 := cell_kept h0.cell (grownBy_putObj' _ D (.deferred none)) (fun r e => by cases e; exact ⟨_, hK, rfl⟩)
    have hc6 := cell_kept h1.cell (grownBy_putObj' _ D (.deferred none)) (fun r e => by cases e; exact ⟨_, hK, rfl⟩)
    refine ⟨.tuple #[.slice none 0 0, .int .i64 4], ?_, _, rfl, ?_, hb.trans (belowK_b (w := w) (Nat.le_refl _) W D _ _ (by omega) hK rfl rfl)⟩
    · simp [results, Tryz.f16, go_sem, hc5, hc6]
    · have hu : unpackL s = none := by
        unfold unpackL
        rw [if_neg]
        rw [List.all_eq_true]
        intro h
        have := h x hx2
        simp at this
        exact hne this
      unfold unpackRes
      rw [hu]
end Go.Proofs
