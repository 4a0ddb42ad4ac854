/- nest.ToNum, nest.Take: what they read. -/
import Derived.Test.YtikpakgffldgdaaGreatDoorPL2
import Derived.Lib.AtoiErrMem
namespace Go.Proofs
open Go.RowKit

/-- What the program's variables must hold. -/
structure Good (w : World) : Prop where
  tab : Lib.TabIs Tryz.prog w "internal/strconv.uint64pow10" .u64 Lib.pow10Tab
  syn : ∃ te pe, w.cell? ⟨1, 0, none⟩ = some (.iface te pe)
  rng : ∃ te pe, w.cell? ⟨2, 0, none⟩ = some (.iface te pe)
  big : ∃ m, w.cell? ⟨5, 0, none⟩ = some (.int .i64 m)
theorem cell_below {w w' : World} {a : Addr} {v : Value} (h : w.cell? a = some v) (hb : Below w.heap.size w w') : w'.cell? a = some v :=
  (hb.cell (World.block_lt_of_cell? _ _ h)).trans h
theorem Good.below {w w' : World} (h : Good w) (hb : Below w.heap.size w w') : Good w' := by
  obtain ⟨h1, ⟨t2, p2, h2⟩, ⟨t3, p3, h3⟩, ⟨m, h4⟩⟩ := h
  exact ⟨tab_below h1 hb, ⟨t2, p2, cell_below h2 hb⟩, ⟨t3, p3, cell_below h3 hb⟩, ⟨m, cell_below h4 hb⟩⟩

/-- The number that a text is. -/
def toNumL (s : ByteArray) : Option Int :=
  match Lib.atoiAll s.data.toList with
  | .ok v => if Lib.itoa v = s.data.toList then some v else none
  | _ => none
def numRes : Option Int → Value
  | some v => .tuple #[.int .i64 v, .int .i64 0]
  | none => .tuple #[.int .i64 0, .int .i64 4]

theorem below_bytes (w : World) (e : TypeId) (t : ByteArray) : Below w.heap.size w (Lib.bytesWorld w e t) :=
  Lib.bytesWorld_below w e t
theorem bytes_eq {l : List UInt8} {s : ByteArray} (h : l = s.data.toList) : (⟨l.toArray⟩ : ByteArray) = s := by subst h; rfl
theorem bytes_ne {l : List UInt8} {s : ByteArray} (h : l ≠ s.data.toList) : (⟨l.toArray⟩ : ByteArray) ≠ s := fun e => h (by subst e; rfl)

theorem atoi_i64 {l : List UInt8} {v : Int} (h : Lib.atoiAll l = .ok v) : -9223372036854775808 ≤ v ∧ v ≤ 9223372036854775807 := by
  unfold Lib.atoiAll at h
  split at h
  · cases h
  · simp only at h
    split at h
    · cases h
    · cases h
    · split at h
      · cases h
      · split at h
        · cases h
        · injection h with h
          subst h
          split <;> omega

set_option maxHeartbeats 2000000 in
set_option maxRecDepth 1000000 in
theorem Tryz.toNum_ok (s : ByteArray) (hs : s.size ≤ 281474976710656) (w : World) (hg : Good w) :
    Calls Tryz.prog 69 #[.string s] w fun e w' => e = .returned (numRes (toNumL s)) ∧ Below w.heap.size w w' := by
  obtain ⟨t2, p2, h2⟩ := hg.syn
  obtain ⟨t3, p3, h3⟩ := hg.rng
  rcases ha : Lib.atoiAll s.data.toList with v | _ | _
  · obtain ⟨hv0, hv1⟩ := atoi_i64 ha
    have cA : Calls Tryz.prog 118 #[.string s] w fun e w' => e = .returned (.tuple #[.int .i64 v, .nilIface]) ∧ Below w.heap.size w w' :=
      (Tryz.strconv_Atoi_ok s (by omega) v ha w).mono fun e w' h => ⟨h.1, h.2.elim (fun h => h ▸ Below.refl _ _) (fun ⟨t, h⟩ => h ▸ below_bytes _ _ _)⟩
    go_enter Tryz.func69, Tryz.ntmps69
    have hgt := fun W1 (b1 : Below w.heap.size w W1) => (hg.below b1).tab
    clear hg h2 h3
    go_wp2_with (first | (go_at_call 118; refine cA.mono ?_; rintro e W1 ⟨rfl, b1⟩) | (go_at_call 110; refine (Tryz.num_ok v hv0 hv1 _ (hgt _ b1)).mono ?_; rintro e W2 ⟨rfl, b2⟩))
    · rename_i h
      go_ret2
      refine ⟨?_, b1.trans (below_le b2 b1.size)⟩
      rw [toNumL, ha]
      simp only
      rw [if_neg]
      · rfl
      · intro e; rw [Lib.toList_data, e] at h; simp at h
    · rename_i h
      go_ret2
      refine ⟨?_, b1.trans (below_le b2 b1.size)⟩
      rw [toNumL, ha]
      simp only
      rw [if_pos]
      · rfl
      · rw [Lib.toList_data] at h; simpa using h
  · go_enter Tryz.func69, Tryz.ntmps69
    go_wp2_with (go_at_call 118; refine (Any.strconv_Atoi_syntax Tryz.laysC172 s hs ha _ w h2 (.inr ⟨_, _, rfl⟩)).mono ?_; rintro e W1 ⟨N, rfl, _, _, b1⟩)
    go_ret2
    exact ⟨by rw [toNumL, ha]; rfl, b1⟩
  · go_enter Tryz.func69, Tryz.ntmps69
    go_wp2_with (go_at_call 118; refine (Any.strconv_Atoi_range Tryz.laysC172 s hs ha _ w h3 (.inr ⟨_, _, rfl⟩)).mono ?_; rintro e W1 ⟨N, rfl, _, _, b1⟩)
    go_ret2
    exact ⟨by rw [toNumL, ha]; rfl, b1⟩

/-- The first text, and what is behind. -/
def takeL (s : ByteArray) : Option (ByteArray × ByteArray) :=
  match Lib.cut s.data.toList [58] with
  | (h, r, f) => match toNumL ⟨h.toArray⟩ with
    | some n => if f = true ∧ h.length ≤ 9 ∧ 0 ≤ n ∧ n < r.length ∧ r[n.toNat]? = some 44 then some (⟨(r.take n.toNat).toArray⟩, ⟨(r.drop (n.toNat + 1)).toArray⟩) else none
    | none => none
def takeRes : Option (ByteArray × ByteArray) → Value
  | some (a, b) => .tuple #[.string a, .string b, .int .i64 0]
  | none => .tuple #[.string ⟨#[]⟩, .string ⟨#[]⟩, .int .i64 4]

theorem cut_len {l sep h r : List UInt8} {f : Bool} (hc : Lib.cut l sep = (h, r, f)) : h.length ≤ l.length ∧ r.length ≤ l.length := by
  unfold Lib.cut at hc
  split at hc
  · injection hc with h1 h2; injection h2 with h2 h3; subst h1 h2; simp <;> omega
  · injection hc with h1 h2; injection h2 with h2 h3; subst h1 h2; simp <;> omega

theorem ext_take (r : List UInt8) (k : Nat) : (⟨r.toArray⟩ : ByteArray).extract 0 k = ⟨(r.take k).toArray⟩ := by
  apply ByteArray.ext
  simp
theorem ext_drop (r : List UInt8) (k : Nat) : (⟨r.toArray⟩ : ByteArray).extract k r.length = ⟨(r.drop k).toArray⟩ := by
  apply ByteArray.ext
  simp
  exact List.take_of_length_le (by simp)
theorem at44 {r : List UInt8} {k : Nat} (h : k < (⟨r.toArray⟩ : ByteArray).size) : ((((⟨r.toArray⟩ : ByteArray)[k]'h).toNat : Int) != 44) = false ↔ r[k]? = some 44 := by
  have hk : k < r.length := by simpa [ByteArray.size] using h
  have e : (⟨r.toArray⟩ : ByteArray)[k]'h = r[k]'hk := rfl
  rw [e, List.getElem?_eq_getElem hk, bne_eq_false_iff_eq, Option.some_inj]
  constructor
  · intro q
    have : (r[k]'hk).toNat = 44 := by omega
    exact UInt8.toNat_inj.1 this
  · intro q
    rw [q]; rfl
theorem takeL_bad {s : ByteArray} {h r : List UInt8} {f : Bool} {n : Int} (hc : Lib.cut s.data.toList [58] = (h, r, f)) (ho : toNumL ⟨h.toArray⟩ = some n) (hb : ¬ (f = true ∧ h.length ≤ 9 ∧ 0 ≤ n ∧ n < r.length ∧ r[n.toNat]? = some 44)) : takeL s = none := by
  unfold takeL; rw [hc]; simp only [ho]; rw [if_neg hb]
theorem takeL_ok {s : ByteArray} {h r : List UInt8} {f : Bool} {n : Int} (hc : Lib.cut s.data.toList [58] = (h, r, f)) (ho : toNumL ⟨h.toArray⟩ = some n) (hb : (f = true ∧ h.length ≤ 9 ∧ 0 ≤ n ∧ n < r.length ∧ r[n.toNat]? = some 44)) : takeL s = some (⟨(r.take n.toNat).toArray⟩, ⟨(r.drop (n.toNat + 1)).toArray⟩) := by
  unfold takeL; rw [hc]; simp only [ho]; rw [if_pos hb]

set_option maxHeartbeats 4000000 in
set_option maxRecDepth 1000000 in
theorem Tryz.take_ok (s : ByteArray) (hs : s.size ≤ 1099511627) (w : World) (hg : Good w) :
    Calls Tryz.prog 186 #[.string s] w fun e w' => e = .returned (takeRes (takeL s)) ∧ Below w.heap.size w w' := by
  obtain ⟨m, hm⟩ := hg.big
  obtain ⟨h, r, f, hc⟩ : ∃ h r f, Lib.cut s.data.toList [58] = (h, r, f) := ⟨_, _, _, rfl⟩
  have cC : Calls Tryz.prog 233 #[.string s, .string ⟨#[58]⟩] w fun e w' => e = .returned (.tuple #[.string ⟨h.toArray⟩, .string ⟨r.toArray⟩, .bool f]) ∧ Below w.heap.size w w' :=
    (Tryz.strings_Cut s ⟨#[58]⟩ m w (by omega) hm).mono fun e w' q => ⟨by rw [q.1]; show Ending.returned (Value.tuple #[.string ⟨(Lib.cut s.data.toList [58]).1.toArray⟩, .string ⟨(Lib.cut s.data.toList [58]).2.1.toArray⟩, .bool (Lib.cut s.data.toList [58]).2.2]) = _; rw [hc], by
      obtain ⟨n, rfl⟩ := q.2; exact ⟨rfl, rfl, rfl, Nat.le_refl _, fun _ _ => rfl⟩⟩
  have hgt := fun W1 (b1 : Below w.heap.size w W1) => hg.below b1
  obtain ⟨o, ho⟩ : ∃ o, toNumL ⟨h.toArray⟩ = o := ⟨_, rfl⟩
  have cT : ∀ W1, Below w.heap.size w W1 → Calls Tryz.prog 69 #[.string ⟨h.toArray⟩] W1 fun e w' => e = .returned (numRes o) ∧ Below W1.heap.size W1 w' := fun W1 b1 => ho ▸ Tryz.toNum_ok ⟨h.toArray⟩ (by have := cut_len hc; show h.toArray.size ≤ _; simp; have : s.data.toList.length = s.size := rfl; omega) W1 (hgt W1 b1)
  have htn : o = none → takeL s = none := by intro e; unfold takeL; rw [hc]; simp only [ho, e]
  have hrl : r.length ≤ 1099511627 := by have := (cut_len hc).2; have e : s.data.toList.length = s.size := rfl; omega
  clear hg hm hgt
  go_enter Tryz.func186, Tryz.ntmps186
  cases o with
  | none =>
    go_wp2_with (first | (go_at_call 233; refine cC.mono ?_; rintro e W1 ⟨rfl, b1⟩) | (go_at_call 69; refine (cT _ b1).mono ?_; rintro e W2 ⟨rfl, b2⟩; simp only [numRes]))
    all_goals
      go_ret3
      exact ⟨by rw [htn trivial]; rfl, b1.trans (below_le b2 b1.size)⟩
  | some n =>
    go_wp2_with (first | (go_at_call 233; refine cC.mono ?_; rintro e W1 ⟨rfl, b1⟩) | (go_at_call 69; refine (cT _ b1).mono ?_; rintro e W2 ⟨rfl, b2⟩; simp only [numRes]))
    · rename_i k0 k1 k2 k3 k4
      go_ret3
      refine ⟨?_, b1.trans (below_le b2 b1.size)⟩
      rw [takeL_bad hc ho]
      · rfl
      · intro q
        rcases k4 with ((e | e) | e) | e
        · have := q.2.1; omega
        · omega
        · omega
        · rw [(at44 _).2 q.2.2.2.2] at e; cases e
    · rename_i k0 k1 k2 k3 k4 k5 k6
      have f1 : wrap64 (n + 1) = n + 1 := by unfold wrap64; omega
      have f2 : 0 ≤ n + 1 := by omega
      have f3 : n + 1 ≤ (r.length : Int) := by omega
      have f4 : n ≤ (r.length : Int) := by omega
      go_region
      go_wp2
      go_ret3
      refine ⟨?_, b1.trans (below_le b2 b1.size).drew⟩
      rw [takeL_ok hc ho ⟨k0, by omega, k2, k3, ?_⟩]
      · show _ = Ending.returned (Value.tuple #[.string _, .string _, .int .i64 0])
        rw [ext_take, ext_drop]
        rw [show (n + 1).toNat = n.toNat + 1 by omega]
        rfl
      · exact (at44 _).1 k4.2
    all_goals
      rename_i kk
      go_ret3
      refine ⟨?_, b1.trans (below_le b2 b1.size)⟩
      rw [takeL_bad hc ho (fun q => ?_)]
      · rfl
      · first | (exact kk q.1) | (have := q.2.1; have := q.2.2.1; have := q.2.2.2.1; omega)
end Go.Proofs
