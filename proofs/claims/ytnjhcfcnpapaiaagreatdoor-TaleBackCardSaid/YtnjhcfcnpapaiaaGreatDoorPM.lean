/- bag.New, batch.New and bell.New lay one new row each. -/
import Derived.Test.YtnjhcfcnpapaiaaGreatDoorA32
import Derived.Test.YtnjhcfcnpapaiaaGreatDoorProg
import Derived.WalkKit
import Derived.Test.YtnjhcfcnpapaiaaGreatDoorBW
import Derived.Test.YtnjhcfcnpapaiaaGreatDoorNM
import Derived.Test.YtnjhcfcnpapaiaaGreatDoorPL7
import Derived.KernelRfl
namespace Go.Proofs.YtnjhcfcnpapaiaaGreatDoor
open Go.AM Go.RowKit
set_option maxRecDepth 100000

def z64 : List Value := List.replicate 64 (.int .i64 0)
theorem bag_new (w : World) : Calls Tryz.prog 42 #[] w fun e w' => e = .returned (.pointer (some ⟨w.heap.size, 0, none⟩)) ∧ w' = w.alloc (.cells #[.slice none 0 0, .int .i64 0] 157) := by
  go_enter Tryz.func42, Tryz.ntmps42
  go_wp2
  go_ret
  exact ⟨rfl, rfl⟩
theorem batch_new (w : World) : Calls Tryz.prog 135 #[] w fun e w' => e = .returned (.pointer (some ⟨w.heap.size, 0, none⟩)) ∧ w' = w.alloc (.cells Tryz.zeroCells346 346) := by
  go_enter Tryz.func135, Tryz.ntmps135
  go_wp2
  go_ret
  exact ⟨rfl, rfl⟩
theorem bell_new (w : World) : Calls Tryz.prog 136 #[] w fun e w' => e = .returned (.pointer (some ⟨w.heap.size, 0, none⟩)) ∧ w' = w.alloc (.cells Tryz.zeroCells353 353) := by
  go_enter Tryz.func136, Tryz.ntmps136
  go_wp2
  go_ret
  exact ⟨rfl, rfl⟩
theorem rep_z (m : Mp) (w : World) : ∀ n, RepL m w (List.replicate n (.int .i64 0)) (List.replicate n (.int .i64 0)) := by
  intro n
  induction n with
  | zero => exact .nil
  | succ n ih => rw [List.replicate_succ, List.replicate_succ]; exact .cons _ _ _ _ (.int _ _) ih
theorem zc176 : Tryz.zeroCells346.toList = .slice none 0 0 :: z64 := by kernel_rfl
theorem zc183 : Tryz.zeroCells353.toList = .int .i64 0 :: .int .i64 0 :: .slice none 0 0 :: z64 := by kernel_rfl
theorem fresh_sound : FreshSound Tryz.prog := by
  intro f cs h
  unfold freshOf at h
  split at h
  · injection h with h
    subst h
    refine ⟨by decide, ⟨Tryz.f42, Tryz.func42, by kernel_rfl, by kernel_rfl⟩, #[.slice none 0 0, .int .i64 0], 157, fun m w => ?_, fun w => (bag_new w).mono ?_⟩
    · exact .cons _ _ _ _ (.snil _) (.cons _ _ _ _ (.int _ _) .nil)
    · rintro e w' ⟨rfl, rfl⟩; exact ⟨rfl, rfl, rfl, rfl, rfl⟩
  · injection h with h
    subst h
    refine ⟨by decide, ⟨Tryz.f135, Tryz.func135, by kernel_rfl, by kernel_rfl⟩, Tryz.zeroCells346, 346, fun m w => ?_, fun w => (batch_new w).mono ?_⟩
    · rw [zc176]; exact .cons _ _ _ _ (.snil _) (rep_z m w 64)
    · rintro e w' ⟨rfl, rfl⟩; exact ⟨rfl, rfl, rfl, rfl, rfl⟩
  · injection h with h
    subst h
    refine ⟨by decide, ⟨Tryz.f136, Tryz.func136, by kernel_rfl, by kernel_rfl⟩, Tryz.zeroCells353, 353, fun m w => ?_, fun w => (bell_new w).mono ?_⟩
    · rw [zc183]; exact .cons _ _ _ _ (.int _ _) (.cons _ _ _ _ (.int _ _) (.cons _ _ _ _ (.snil _) (rep_z m w 64)))
    · rintro e w' ⟨rfl, rfl⟩; exact ⟨rfl, rfl, rfl, rfl, rfl⟩
  · cases h
end Go.Proofs.YtnjhcfcnpapaiaaGreatDoor

namespace Go.Proofs.YtnjhcfcnpapaiaaGreatDoor
open Go.AM Go.RowKit
set_option maxRecDepth 100000
set_option linter.unusedVariables false

def strsOf : List AV → Option (List ByteArray)
  | [] => some []
  | .str s :: r => (strsOf r).map (s :: ·)
  | _ => none
theorem strsOf_eq : ∀ {cs : List AV} {l : List ByteArray}, strsOf cs = some l → cs = l.map AV.str := by
  intro cs
  induction cs with
  | nil => intro l h; simp [strsOf] at h; subst h; rfl
  | cons a cs ih =>
    intro l h
    cases a <;> simp [strsOf] at h
    obtain ⟨r, h1, rfl⟩ := h
    rw [ih h1]; rfl
def intsEq : List AV → List Int → Bool
  | [], [] => true
  | .int .u64 a :: r, b :: t => a == b && intsEq r t
  | _, _ => false
theorem intsEq_eq : ∀ {cs : List AV} {zs : List Int}, intsEq cs zs = true → cs = zs.map (AV.int .u64) := by
  intro cs
  induction cs with
  | nil => intro zs h; cases zs <;> simp [intsEq] at h ⊢
  | cons a cs ih =>
    intro zs h
    cases zs with
    | nil => unfold intsEq at h; split at h <;> simp_all
    | cons b zs =>
      unfold intsEq at h
      split at h
      · simp_all
      · rename_i e1 e2
        injection e1 with e1 e3; injection e2 with e2 e4
        subst e1 e2 e3 e4
        simp only [Bool.and_eq_true, beq_iff_eq] at h
        rw [h.1, ih h.2]; rfl
      · simp at h

def goodS (σ : St) : Bool :=
  (match σ.get 0 with | some (.glob 0 [.iface _ _]) => true | _ => false) && (match σ.get 1 with | some (.glob 1 [.iface _ _]) => true | _ => false) &&
  (match σ.get 2 with | some (.glob 3 cs) => intsEq cs Lib.pow10Tab | _ => false) && (match σ.get 3 with | some (.glob 4 [.int .i64 _]) => true | _ => false)

theorem repL_ints {m : Mp} {w : World} {zs : List Int} {vs : List Value} (h : RepL m w (zs.map (AV.int .u64)) vs) : vs = zs.map fun z => Value.int .u64 z := by
  induction zs generalizing vs with
  | nil => cases h; rfl
  | cons z zs ih =>
    cases h with
    | cons _ v _ y hv ht => cases hv; rw [ih ht]; rfl

theorem good_of {B : Nat} {σ : St} {m : Mp} {w : World} (hs : Sim B σ m w) (h : goodS σ = true) : Good w := by
  unfold goodS at h
  simp only [Bool.and_eq_true] at h
  obtain ⟨⟨⟨h0, h1⟩, h2⟩, h3⟩ := h
  split at h0
  · rename_i t v e0
    split at h1
    · rename_i t1 v1 e1
      split at h2
      · rename_i cs e2
        split at h3
        · rename_i n e3
          obtain ⟨_, c0, el0, fr0, p0, r0⟩ := hs.glob _ _ _ e0
          obtain ⟨_, c1, el1, fr1, p1, r1⟩ := hs.glob _ _ _ e1
          obtain ⟨_, c2, el2, fr2, p2, r2⟩ := hs.glob _ _ _ e2
          obtain ⟨_, c3, el3, fr3, p3, r3⟩ := hs.glob _ _ _ e3
          rw [intsEq_eq h2] at r2
          refine ⟨?_, ?_, ?_, ?_⟩
          · unfold Lib.TabIs World.var?
            rw [show Tryz.prog.globalNamed "internal/strconv.uint64pow10" = some 3 by kernel_rfl]
            simp only [Option.bind_some, p2]
            have := repL_ints r2
            congr 1
            exact Array.ext' (by simpa using this)
          · generalize h5 : c0.toList = l5 at r0
            cases r0 with
            | cons _ u _ y hv ht =>
              cases ht
              cases hv with
              | iface _ _ u' hu => exact ⟨_, u', by unfold World.cell?; simp only [p0]; rw [← Array.getElem?_toList, h5]; rfl⟩
          · generalize h5 : c1.toList = l5 at r1
            cases r1 with
            | cons _ u _ y hv ht =>
              cases ht
              cases hv with
              | iface _ _ u' hu => exact ⟨_, u', by unfold World.cell?; simp only [p1]; rw [← Array.getElem?_toList, h5]; rfl⟩
          · generalize h5 : c3.toList = l5 at r3
            cases r3 with
            | cons _ u _ y hv ht =>
              cases ht
              cases hv
              exact ⟨_, by unfold World.cell?; simp only [p3]; rw [← Array.getElem?_toList, h5]; rfl⟩
        · cases h3
      · cases h2
    · cases h1
  · cases h0

def okL (l : List ByteArray) : Bool := (l.all fun s => Nat.blt s.size 1000000000) && Nat.ble (pk l).length 1000000000
def packSpec (args : List AV) (σ : St) : Option (AV × St) :=
  match args with
  | [.slice o n c 1] => if goodS σ = true then (σ.elems 1 ⟨o, n, c⟩ n).bind fun cs => (strsOf cs).bind fun l => if okL l = true then some (.str ⟨(pk l).toArray⟩, σ) else none else none
  | _ => none
def unpackSpec (args : List AV) (σ : St) : Option (AV × St) :=
  match args with
  | [.str s] => if (goodS σ && Nat.ble s.size 1000000000) = true then
      match upK (s.size + 1) s.data.toList with
      | some [] => some (.tuple [.slice none 0 (some 0) 1, .int .i64 0], σ)
      | some (a :: l) => some (.tuple [.slice (some (σ.next, 0)) (l.length + 1) none 1, .int .i64 0], σ.new (.cells ((a :: l).map fun t => AV.str ⟨t.toArray⟩) true))
      | none => if ((spK s.data.toList).isNone && s.data.toList != []) = true then some (.tuple [.slice none 0 (some 0) 1, .int .i64 4], σ) else none
    else none
  | _ => none

/-- What is known of a function's calls is right. -/
def SndOf (B : Nat) (f : FuncId) (sp : List AV → St → Option (AV × St)) : Prop :=
  (∃ fn, Tryz.prog.funcs[f]? = some fn ∧ fn.body.isSome = true ∧ (fn.name == "runtime.NumGoroutine") = false) ∧ ∀ args σ v σ', sp args σ = some (v, σ') →
    ∀ m w cargs, Sim B σ m w → Fr m σ.next → RepL m w args cargs.toList → Calls Tryz.prog f cargs w fun e w' => ∃ m' cv, e = .returned cv ∧
      Sim B σ' m' w' ∧ Grows m w m' w' ∧ Below B w w' ∧ RepV m' w' v cv ∧ Fr m' σ'.next

theorem one_arg {m : Mp} {w : World} {a : AV} {cargs : Array Value} (hr : RepL m w [a] cargs.toList) : ∃ u, cargs = #[u] ∧ RepV m w a u := by
  generalize hc : cargs.toList = l5 at hr
  cases hr with
  | cons _ u _ y hv ht =>
    cases ht
    exact ⟨u, Array.ext' (by simpa using hc), hv⟩

theorem pack_sound (B : Nat) : SndOf B 15 packSpec := by
  refine ⟨⟨Tryz.f15, Tryz.func15, by kernel_rfl, by kernel_rfl⟩, fun args σ v σ' h' => ?_⟩
  unfold packSpec at h'
  split at h'
  · rename_i o n c
    split at h'
    · rename_i hgd
      simp only [Option.bind_eq_some_iff] at h'
      obtain ⟨cs, hcs, l, hl, h'⟩ := h'
      split at h'
      · rename_i hok
        simp only [Option.some.injEq, Prod.mk.injEq] at h'
        obtain ⟨rfl, rfl⟩ := h'
        intro m w cargs hs hf hr
        obtain ⟨u, rfl, hr2⟩ := one_arg hr
        obtain ⟨ad, c', rfl⟩ := slice_inv' hr2
        obtain ⟨us, q1, q2, q3, q4, q5⟩ := hs.elems hcs (by decide) hr2
        have hce := strsOf_eq hl
        have hll : l.length = n := by have := q1.length; rw [hce] at this; simp at this; omega
        unfold okL at hok
        simp only [Bool.and_eq_true, List.all_eq_true] at hok
        have hsz : ∀ s ∈ l, s.size < 1000000000 := fun s hs => Nat.blt_eq.mp (hok.1 s hs)
        have hlen : (pk l).length ≤ 1000000000 := Nat.le_of_ble_eq_true hok.2
        rw [pk_eq hsz] at hlen ⊢
        have hg := good_of hs hgd
        have := Tryz.pack_walk l ad c' w (fun i s his => ?_) (by omega) hg.tab
        · rw [hll] at this
          refine this.mono ?_
          rintro e w' ⟨rfl, hb⟩
          obtain ⟨g1, g2, g3⟩ := sim_behind hs hb
          exact ⟨m, _, rfl, g1, g2, g3, .str _, hf⟩
        · have hci : cs[i]? = some (.str s) := by rw [hce, List.getElem?_map, his]; rfl
          obtain ⟨x, hx, hxr⟩ := q1.get hci
          have := str_inv hxr
          subst this
          cases ad with
          | none => rw [q5 rfl] at hx; cases hx
          | some a =>
            have hcell := q4 a rfl i _ hx
            refine ⟨a, rfl, ?_, hcell⟩
            have := World.block_lt_of_cell? _ _ hcell
            have e : (a.add i).block = a.block := by unfold Addr.add; split <;> rfl
            rw [e] at this; exact this
      · cases h'
    · cases h'
  · cases h'

theorem unpack_sound (B : Nat) : SndOf B 16 unpackSpec := by
  refine ⟨⟨Tryz.f16, Tryz.func16, by kernel_rfl, by kernel_rfl⟩, fun args σ v σ' h m w cargs hs hf hr => ?_⟩
  unfold unpackSpec at h
  split at h
  · rename_i s
    split at h
    · rename_i hgd
      simp only [Bool.and_eq_true] at hgd
      have hg := good_of hs hgd.1
      have hsz : s.size ≤ 1000000000 := Nat.le_of_ble_eq_true hgd.2
      obtain ⟨u, rfl, hr2⟩ := one_arg hr
      obtain rfl := str_inv hr2
      refine (Tryz.unpack_ok s (by omega) w hg hg.lt).mono ?_
      rintro e w' ⟨cv, rfl, hres, hb⟩
      unfold unpackRes at hres
      split at h
      · rename_i hu
        simp only [Option.some.injEq, Prod.mk.injEq] at h
        obtain ⟨rfl, rfl⟩ := h
        rw [upK_ok hu] at hres
        obtain ⟨u, rfl, _, hn⟩ := hres
        obtain rfl := hn.2 rfl
        obtain ⟨g1, g2, g3⟩ := sim_behind hs hb
        exact ⟨m, _, rfl, g1, g2, g3, .tuple _ _ (.cons _ _ _ _ (.snil 1) (.cons _ _ _ _ (.int _ _) .nil)), hf⟩
      · rename_i a l hu
        simp only [Option.some.injEq, Prod.mk.injEq] at h
        obtain ⟨rfl, rfl⟩ := h
        rw [upK_ok hu] at hres
        obtain ⟨u, rfl, ho, _⟩ := hres
        obtain ⟨m', p1, p2, p3, p4, p5⟩ := texts_behind hs hb hf (by simp) ho
        simp only [List.map_map, List.length_map, List.length_cons] at p1 p5
        exact ⟨m', _, rfl, p1, p2, p3, .tuple _ _ (.cons _ _ _ _ p5 (.cons _ _ _ _ (.int _ _) .nil)), p4⟩
      · split at h
        · rename_i hbad
          simp only [Bool.and_eq_true, bne_iff_ne, ne_eq, Option.isNone_iff_eq_none] at hbad
          simp only [Option.some.injEq, Prod.mk.injEq] at h
          obtain ⟨rfl, rfl⟩ := h
          rw [(no58_bad hbad.1 hbad.2).1] at hres
          subst hres
          obtain ⟨g1, g2, g3⟩ := sim_behind hs hb
          exact ⟨m, _, rfl, g1, g2, g3, .tuple _ _ (.cons _ _ _ _ (.snil 1) (.cons _ _ _ _ (.int _ _) .nil)), hf⟩
        · cases h
    · cases h
  · cases h

/-- What is known of the list of functions that are known. -/
def specOf : List (FuncId × (List AV → St → Option (AV × St))) → FuncId → List AV → St → Option (AV × St)
  | [], _, _, _ => none
  | (g, sp) :: l, f, args, σ => if f = g then sp args σ else specOf l f args σ
theorem specOf_sound {B : Nat} : ∀ {l : List (FuncId × (List AV → St → Option (AV × St)))}, (∀ p ∈ l, SndOf B p.1 p.2) → ∀ {f args σ v σ'}, specOf l f args σ = some (v, σ') →
    (∃ fn, Tryz.prog.funcs[f]? = some fn ∧ fn.body.isSome = true ∧ (fn.name == "runtime.NumGoroutine") = false) ∧
    ∀ m w cargs, Sim B σ m w → Fr m σ.next → RepL m w args cargs.toList → Calls Tryz.prog f cargs w fun e w' => ∃ m' cv, e = .returned cv ∧
      Sim B σ' m' w' ∧ Grows m w m' w' ∧ Below B w w' ∧ RepV m' w' v cv ∧ Fr m' σ'.next := by
  intro l
  induction l with
  | nil => intro _ f args σ v σ' h; cases h
  | cons p l ih =>
    intro hp f args σ v σ' h
    obtain ⟨g, sp⟩ := p
    unfold specOf at h
    split at h
    · rename_i e; subst e
      exact ⟨(hp _ (List.mem_cons_self ..)).1, (hp _ (List.mem_cons_self ..)).2 args σ v σ' h⟩
    · exact ih (fun q hq => hp q (List.mem_cons_of_mem _ hq)) h
abbrev peerSpec : AM.Spec := ⟨fun _ f args σ => specOf [(15, packSpec), (16, unpackSpec)] f args σ⟩
theorem peer_sound (B : Nat) : SpecSound peerSpec B Tryz.prog :=
  ⟨fresh_sound, fun _ _ _ _ _ _ h => specOf_sound (B := B) (fun p hp => by
    simp only [List.mem_cons, List.not_mem_nil, or_false] at hp
    rcases hp with rfl | rfl
    · exact pack_sound B
    · exact unpack_sound B) h⟩
end Go.Proofs.YtnjhcfcnpapaiaaGreatDoor

set_option linter.unusedVariables false
namespace Go.Proofs.YtnjhcfcnpapaiaaGreatDoor
open Go.AM Go.RowKit
set_option maxRecDepth 100000

def tabAV : List AV := Lib.pow10Tab.map (AV.int .u64)
def σ0 (t1 t2 : TypeId) (m : Int) : St := ((((⟨.leaf, 0⟩ : St).new (.glob 0 [.iface t1 .undef])).new (.glob 1 [.iface t2 .undef])).new (.glob 3 tabAV)).new (.glob 4 [.int .i64 m])


/-- What holds of the world where a law begins. -/
structure Start (W : World) : Prop where
  syn : ∃ t v el fr, W.heap[0]? = some (.cells #[.iface t v] el fr)
  rng : ∃ t v el fr, W.heap[1]? = some (.cells #[.iface t v] el fr)
  tab : ∃ el fr, W.heap[3]? = some (.cells (Lib.pow10Tab.map fun z => Value.int .u64 z).toArray el fr)
  big : ∃ m el fr, W.heap[4]? = some (.cells #[.int .i64 m] el fr)

theorem int_reps (m : Mp) (w : World) : ∀ zs : List Int, RepL m w (zs.map (AV.int .u64)) (zs.map fun z => Value.int .u64 z) := by
  intro zs
  induction zs with
  | nil => exact .nil
  | cons z zs ih => exact .cons _ _ _ _ (.int _ _) ih

def m0 : Mp := fun i => match i with
  | 0 => some ⟨0, 0, 0⟩
  | 1 => some ⟨1, 0, 0⟩
  | 2 => some ⟨3, 0, 0⟩
  | 3 => some ⟨4, 0, 0⟩
  | _ => none

theorem get_new0 (t1 t2 : TypeId) (m : Int) (i : Nat) : (σ0 t1 t2 m).get i = match i with
    | 0 => some (.glob 0 [.iface t1 .undef])
    | 1 => some (.glob 1 [.iface t2 .undef])
    | 2 => some (.glob 3 tabAV)
    | 3 => some (.glob 4 [.int .i64 m])
    | _ => none := by
  unfold σ0
  rw [St.get_new, St.get_new, St.get_new, St.get_new]
  have h0 : ∀ i, St.get ⟨.leaf, 0⟩ i = none := by intro i; cases i <;> simp [St.get, Heap.get]
  match i with
  | 0 => rfl
  | 1 => rfl
  | 2 => rfl
  | 3 => rfl
  | i + 4 =>
    simp [St.next_new, h0]

theorem start_sim {W : World} (h : Start W) : ∃ t1 t2 m, Sim W.heap.size (σ0 t1 t2 m) m0 W ∧ Fr m0 (σ0 t1 t2 m).next := by
  obtain ⟨⟨t1, v1, e1, f1, h1⟩, ⟨t2, v2, e2, f2, h2⟩, ⟨e4, f4, h4⟩, ⟨m, e5, f5, h5⟩⟩ := h
  refine ⟨t1, t2, m, ⟨?_, ?_, ?_, Nat.le_refl _, ?_⟩, ?_⟩
  · intro id cs own hid
    rw [get_new0] at hid
    split at hid <;> cases hid
  · intro id x hid hx
    rw [get_new0] at hid
    split at hid <;> first | (cases hid; done) | (injection hid with hid; subst hid; simp [Blk.isObj] at hx)
  · intro i j x y L M hi hj hx
    rw [get_new0] at hi
    split at hi <;> first | (cases hi; done) | (injection hi with hi; subst hi; simp [Blk.own] at hx)
  · intro id g cs hid
    rw [get_new0] at hid
    split at hid
    · injection hid with hid; injection hid with q1 q2; subst q1 q2
      exact ⟨⟨(Array.getElem?_eq_some_iff.1 h1).1, _, rfl⟩, _, _, _, h1, .cons _ _ _ _ (.iface _ _ _ (.undef _)) .nil⟩
    · injection hid with hid; injection hid with q1 q2; subst q1 q2
      exact ⟨⟨(Array.getElem?_eq_some_iff.1 h2).1, _, rfl⟩, _, _, _, h2, .cons _ _ _ _ (.iface _ _ _ (.undef _)) .nil⟩
    · injection hid with hid; injection hid with q1 q2; subst q1 q2
      exact ⟨⟨(Array.getElem?_eq_some_iff.1 h4).1, _, rfl⟩, _, _, _, h4, int_reps m0 W Lib.pow10Tab⟩
    · injection hid with hid; injection hid with q1 q2; subst q1 q2
      exact ⟨⟨(Array.getElem?_eq_some_iff.1 h5).1, _, rfl⟩, _, _, _, h5, .cons _ _ _ _ (.int _ _) .nil⟩
    · cases hid
  · intro i hi
    have : 4 ≤ i := hi
    match i, this with
    | i + 4, _ => rfl


theorem good_start {B : Nat} {σ : St} {m : Mp} {w : World} (hs : Sim B σ m w) (h : goodS σ = true) : Start w := by
  unfold goodS at h
  simp only [Bool.and_eq_true] at h
  obtain ⟨⟨⟨h0, h1⟩, h2⟩, h3⟩ := h
  split at h0
  · rename_i t v e0
    split at h1
    · rename_i t1 v1 e1
      split at h2
      · rename_i cs e2
        split at h3
        · rename_i n e3
          obtain ⟨_, c0, el0, fr0, p0, r0⟩ := hs.glob _ _ _ e0
          obtain ⟨_, c1, el1, fr1, p1, r1⟩ := hs.glob _ _ _ e1
          obtain ⟨_, c2, el2, fr2, p2, r2⟩ := hs.glob _ _ _ e2
          obtain ⟨_, c3, el3, fr3, p3, r3⟩ := hs.glob _ _ _ e3
          rw [intsEq_eq h2] at r2
          refine ⟨?_, ?_, ?_, ?_⟩
          · obtain ⟨u, rfl, hu⟩ := one_arg r0
            cases hu
            exact ⟨_, _, el0, fr0, p0⟩
          · obtain ⟨u, rfl, hu⟩ := one_arg r1
            cases hu
            exact ⟨_, _, el1, fr1, p1⟩
          · have := repL_ints r2
            refine ⟨el2, fr2, ?_⟩
            rw [p2]
            congr 2
            exact Array.ext' (by simpa using this)
          · obtain ⟨u, rfl, hu⟩ := one_arg r3
            cases hu
            exact ⟨_, el3, fr3, p3⟩
        · cases h3
      · cases h2
    · cases h1
  · cases h0

mutual
/-- No pointer stands in it. -/
def plainV : AV → Bool
  | .bool _ | .int _ _ | .str _ => true
  | .agg cs => plainL cs
  | .tuple cs => plainL cs
  | _ => false
def plainL : List AV → Bool
  | [] => true
  | v :: l => plainV v && plainL l
end
mutual
theorem rep_plain {m m' : Mp} {w w' : World} : ∀ (v : AV) (u : Value), plainV v = true → RepV m w v u → RepV m' w' v u
  | .bool _, _, _, h => by cases h; exact .bool _
  | .int _ _, _, _, h => by cases h; exact .int _ _
  | .str _, _, _, h => by cases h; exact .str _
  | .agg cs, _, hp, h => by cases h with | agg _ ds h => exact .agg _ _ (reps_plain cs _ (by simpa [plainV] using hp) h)
  | .tuple cs, _, hp, h => by cases h with | tuple _ ds h => exact .tuple _ _ (reps_plain cs _ (by simpa [plainV] using hp) h)
  | .undef, _, hp, _ => by simp [plainV] at hp
  | .ptr _, _, hp, _ => by simp [plainV] at hp
  | .slice .., _, hp, _ => by simp [plainV] at hp
  | .map _, _, hp, _ => by simp [plainV] at hp
  | .func .., _, hp, _ => by simp [plainV] at hp
  | .nilFunc, _, hp, _ => by simp [plainV] at hp
  | .iface .., _, hp, _ => by simp [plainV] at hp
  | .nilIface, _, hp, _ => by simp [plainV] at hp
theorem reps_plain {m m' : Mp} {w w' : World} : ∀ (l : List AV) (us : List Value), plainL l = true → RepL m w l us → RepL m' w' l us
  | [], _, _, h => by cases h; exact .nil
  | v :: l, _, hp, h => by
    simp only [plainL, Bool.and_eq_true] at hp
    cases h with
    | cons _ u _ y hv ht => exact .cons _ _ _ _ (rep_plain v u hp.1 hv) (reps_plain l y hp.2 ht)
end

/-- A function of plain values, run in a state of its own. -/
theorem calls_plain [S : AM.Spec] (hS : ∀ B, SpecSound S B Tryz.prog) {N : Nat} {ann : FuncId → Ann} {d : Nat} {f : FuncId} {args : List AV} {v : AV} (ha : plainL args = true) (hv : plainV v = true)
    (h : ∀ t1 t2 z, ∀ K : AV → St → Option Unit, (∀ σ2, K v σ2 = some ()) → callK Tryz.prog N ann d true f args (σ0 t1 t2 z) K = some ())
    {B : Nat} {σ : St} {m : Mp} {w : World} {cargs : Array Value} (hs : Sim B σ m w) (hf : Fr m σ.next) (hg : goodS σ = true) (hr : RepL m w args cargs.toList) :
    Calls Tryz.prog f cargs w fun e w' => ∃ m' cv, e = .returned cv ∧ Sim B σ m' w' ∧ Grows m w m' w' ∧ Below B w w' ∧ RepV m' w' v cv ∧ Fr m' σ.next := by
  classical
  obtain ⟨t1, t2, z, hs0, hf0⟩ := start_sim (good_start hs hg)
  let K : AV → St → Option Unit := fun u _ => if u = v then some () else none
  obtain ⟨_, hc⟩ := (callK_right (B := w.heap.size) (R := Unit) (hS _) (by kernel_rfl) N ann d true).2 f args (σ0 t1 t2 z) K () (h t1 t2 z K fun _ => if_pos rfl)
  refine (hc m0 w cargs hs0 hf0 (reps_plain _ _ ha hr)).mono ?_
  rintro e w' ⟨u, σ2, m', cv, rfl, hk, p1, p2, p3, p4, p5⟩
  have hk' : (if u = v then some () else none) = some () := hk
  split at hk'
  · rename_i e
    subst e
    obtain ⟨g1, g2, g3⟩ := sim_behind hs p3
    exact ⟨m, cv, rfl, g1, g2, g3, rep_plain _ _ hv p4, hf⟩
  · cases hk'
end Go.Proofs.YtnjhcfcnpapaiaaGreatDoor

set_option linter.unusedVariables false
namespace Go.Proofs.YtnjhcfcnpapaiaaGreatDoor
open Go.AM Go.RowKit
set_option maxRecDepth 100000

def numSpec (args : List AV) (σ : St) : Option (AV × St) :=
  match args with
  | [.int .i64 n] => if (goodS σ && inI64 n) = true then some (.str ⟨(itoaK n).toArray⟩, σ) else none
  | _ => none
def numAV : Option Int → AV
  | some v => .tuple [.int .i64 v, .int .i64 0]
  | none => .tuple [.int .i64 0, .int .i64 4]
def toNumSpec (args : List AV) (σ : St) : Option (AV × St) :=
  match args with
  | [.str s] => if (goodS σ && Nat.ble s.size 1000000000) = true then (tonumK s.data.toList).bind fun n => some (numAV (some n), σ) else none
  | _ => none
def toNumG (args : List AV) (σ : St) : Option (AV × St) :=
  match args with
  | [.str s] => if (goodS σ && Nat.ble s.size 1000000000) = true then some (numAV (toNumL s), σ) else none
  | _ => none
def numG (args : List AV) (σ : St) : Option (AV × St) :=
  match args with
  | [.int .i64 n] => if (goodS σ && inI64 n) = true then some (.str ⟨(Lib.itoa n).toArray⟩, σ) else none
  | _ => none
def packG (args : List AV) (σ : St) : Option (AV × St) :=
  match args with
  | [.slice o n c 1] => if goodS σ = true then (σ.elems 1 ⟨o, n, c⟩ n).bind fun cs => (strsOf cs).bind fun l => if ((l.all fun s => Nat.blt s.size 1000000000) && Nat.ble (packAll l).length 1000000000) = true then some (.str ⟨(packAll l).toArray⟩, σ) else none else none
  | _ => none
def unpackG (args : List AV) (σ : St) : Option (AV × St) :=
  match args with
  | [.str s] => if (goodS σ && Nat.ble s.size 1000000000) = true then
      match unpackL s with
      | some [] => some (.tuple [.slice none 0 (some 0) 1, .int .i64 0], σ)
      | some (a :: l) => some (.tuple [.slice (some (σ.next, 0)) (l.length + 1) none 1, .int .i64 0], σ.new (.cells ((a :: l).map AV.str) true))
      | none => some (.tuple [.slice none 0 (some 0) 1, .int .i64 4], σ)
    else none
  | _ => none

theorem num_snd (B : Nat) {n : Int} (h0 : -9223372036854775808 ≤ n) (h1 : n ≤ 9223372036854775807) {σ : St} (hgd : goodS σ = true) : ∀ m w cargs, Sim B σ m w → Fr m σ.next → RepL m w [AV.int .i64 n] cargs.toList →
    Calls Tryz.prog 27 cargs w fun e w' => ∃ m' cv, e = .returned cv ∧ Sim B σ m' w' ∧ Grows m w m' w' ∧ Below B w w' ∧ RepV m' w' (.str ⟨(Lib.itoa n).toArray⟩) cv ∧ Fr m' σ.next := by
  intro m w cargs hs hf hr
  obtain ⟨u, rfl, hr2⟩ := one_arg hr
  cases hr2
  refine (Tryz.num_ok n h0 h1 w (good_of hs hgd).tab).mono ?_
  rintro e w' ⟨rfl, hb⟩
  obtain ⟨g1, g2, g3⟩ := sim_behind hs hb
  exact ⟨m, _, rfl, g1, g2, g3, .str _, hf⟩
theorem num_there : ∃ fn, Tryz.prog.funcs[27]? = some fn ∧ fn.body.isSome = true ∧ (fn.name == "runtime.NumGoroutine") = false :=
  ⟨Tryz.f27, Tryz.func27, by kernel_rfl, by kernel_rfl⟩
theorem num_sound (B : Nat) : SndOf B 27 numSpec := by
  refine ⟨num_there, fun args σ v σ' h => ?_⟩
  unfold numSpec at h
  split at h
  · split at h
    · rename_i n hk
      simp only [Bool.and_eq_true] at hk
      obtain ⟨h0, h1⟩ := inI64_iff.1 hk.2
      simp only [Option.some.injEq, Prod.mk.injEq] at h
      obtain ⟨rfl, rfl⟩ := h
      rw [itoaK_eq h0 h1]
      exact num_snd B h0 h1 hk.1
    · cases h
  · cases h
theorem numG_sound (B : Nat) : SndOf B 27 numG := by
  refine ⟨num_there, fun args σ v σ' h => ?_⟩
  unfold numG at h
  split at h
  · split at h
    · rename_i n hk
      simp only [Bool.and_eq_true] at hk
      obtain ⟨h0, h1⟩ := inI64_iff.1 hk.2
      simp only [Option.some.injEq, Prod.mk.injEq] at h
      obtain ⟨rfl, rfl⟩ := h
      exact num_snd B h0 h1 hk.1
    · cases h
  · cases h

theorem toNumG_sound (B : Nat) : SndOf B 35 toNumG := by
  refine ⟨⟨Tryz.f35, Tryz.func35, by kernel_rfl, by kernel_rfl⟩, fun args σ v σ' h m w cargs hs hf hr => ?_⟩
  unfold toNumG at h
  split at h
  · split at h
    · rename_i s hk
      simp only [Bool.and_eq_true] at hk
      have hsz : s.size ≤ 1000000000 := Nat.le_of_ble_eq_true hk.2
      simp only [Option.some.injEq, Prod.mk.injEq] at h
      obtain ⟨rfl, rfl⟩ := h
      obtain ⟨u, rfl, hr2⟩ := one_arg hr
      obtain rfl := str_inv hr2
      refine (Tryz.toNum_ok s (by omega) w (good_of hs hk.1)).mono ?_
      rintro e w' ⟨rfl, hb⟩
      obtain ⟨g1, g2, g3⟩ := sim_behind hs hb
      refine ⟨m, _, rfl, g1, g2, g3, ?_, hf⟩
      cases toNumL s with
      | none => exact .tuple _ _ (.cons _ _ _ _ (.int _ _) (.cons _ _ _ _ (.int _ _) .nil))
      | some n => exact .tuple _ _ (.cons _ _ _ _ (.int _ _) (.cons _ _ _ _ (.int _ _) .nil))
    · cases h
  · cases h
theorem toNum_sound (B : Nat) : SndOf B 35 toNumSpec := by
  refine ⟨(toNumG_sound B).1, fun args σ v σ' h => (toNumG_sound B).2 args σ v σ' ?_⟩
  unfold toNumSpec at h
  unfold toNumG
  split at h
  · split at h
    · rename_i s hk
      simp only [Option.bind_eq_some_iff] at h
      obtain ⟨n, h1, h2⟩ := h
      simp only [if_pos hk, tonumK_ok h1, h2]
    · cases h
  · cases h

theorem packG_sound (B : Nat) : SndOf B 15 packG := by
  refine ⟨(pack_sound B).1, fun args σ v σ' h => (pack_sound B).2 args σ v σ' ?_⟩
  unfold packG at h
  unfold packSpec
  split at h
  · split at h
    · rename_i hg
      simp only [if_pos hg]
      simp only [Option.bind_eq_some_iff] at h ⊢
      obtain ⟨cs, h1, l, h2, h3⟩ := h
      refine ⟨cs, h1, l, h2, ?_⟩
      split at h3
      · rename_i hk
        have hsz : ∀ s ∈ l, s.size < 1000000000 := by
          simp only [Bool.and_eq_true, List.all_eq_true] at hk
          exact fun s hs => Nat.blt_eq.mp (hk.1 s hs)
        unfold okL
        rw [pk_eq hsz, if_pos hk]
        exact h3
      · cases h3
    · cases h
  · cases h

theorem unpackG_sound (B : Nat) : SndOf B 16 unpackG := by
  refine ⟨(unpack_sound B).1, fun args σ v σ' h m w cargs hs hf hr => ?_⟩
  unfold unpackG at h
  split at h
  · rename_i s
    split at h
    · rename_i hgd
      simp only [Bool.and_eq_true] at hgd
      have hg := good_of hs hgd.1
      have hsz : s.size ≤ 1000000000 := Nat.le_of_ble_eq_true hgd.2
      obtain ⟨u, rfl, hr2⟩ := one_arg hr
      obtain rfl := str_inv hr2
      refine (Tryz.unpack_ok s (by omega) w hg hg.lt).mono ?_
      rintro e w' ⟨cv, rfl, hres, hb⟩
      unfold unpackRes at hres
      split at h
      · rename_i hu
        simp only [Option.some.injEq, Prod.mk.injEq] at h
        obtain ⟨rfl, rfl⟩ := h
        rw [hu] at hres
        obtain ⟨u, rfl, _, hn⟩ := hres
        obtain rfl := hn.2 rfl
        obtain ⟨g1, g2, g3⟩ := sim_behind hs hb
        exact ⟨m, _, rfl, g1, g2, g3, .tuple _ _ (.cons _ _ _ _ (.snil 1) (.cons _ _ _ _ (.int _ _) .nil)), hf⟩
      · rename_i a l hu
        simp only [Option.some.injEq, Prod.mk.injEq] at h
        obtain ⟨rfl, rfl⟩ := h
        rw [hu] at hres
        obtain ⟨u, rfl, ho, _⟩ := hres
        obtain ⟨m', p1, p2, p3, p4, p5⟩ := texts_behind hs hb hf (by simp) ho
        simp only [List.length_cons] at p5
        exact ⟨m', _, rfl, p1, p2, p3, .tuple _ _ (.cons _ _ _ _ p5 (.cons _ _ _ _ (.int _ _) .nil)), p4⟩
      · rename_i hu
        simp only [Option.some.injEq, Prod.mk.injEq] at h
        obtain ⟨rfl, rfl⟩ := h
        rw [hu] at hres
        subst hres
        obtain ⟨g1, g2, g3⟩ := sim_behind hs hb
        exact ⟨m, _, rfl, g1, g2, g3, .tuple _ _ (.cons _ _ _ _ (.snil 1) (.cons _ _ _ _ (.int _ _) .nil)), hf⟩
    · cases h
  · cases h
end Go.Proofs.YtnjhcfcnpapaiaaGreatDoor
