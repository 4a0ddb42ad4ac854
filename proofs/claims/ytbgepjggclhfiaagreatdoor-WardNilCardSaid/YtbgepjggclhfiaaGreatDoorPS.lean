/- What is known of nest.Pack and nest.Unpack ahead of the run is right. -/
import Derived.Test.YtbgepjggclhfiaaGreatDoorA34
import Derived.Test.YtbgepjggclhfiaaGreatDoorNK
import Derived.Test.YtbgepjggclhfiaaGreatDoorPL7
import Derived.Test.YtbgepjggclhfiaaGreatDoorPF
namespace Go.Proofs.YtbgepjggclhfiaaGreatDoor
open Go.AM Go.RowKit
set_option maxRecDepth 100000
set_option linter.unusedVariables false

def strsOf : List AV → Option (List ByteArray)
  | [] => some []
  | .str s :: r => (strsOf r).map (s :: ·)
  | _ => none
theorem strsOf_eq : ∀ {cs : List AV} {l : List ByteArray}, strsOf cs = some l → cs = l.map AV.str := by
  intro cs
  induction cs with
  | nil => intro l h; simp [strsOf] at h; subst h; rfl
  | cons a cs ih =>
    intro l h
    cases a <;> simp [strsOf] at h
    obtain ⟨r, h1, rfl⟩ := h
    rw [ih h1]; rfl
def intsEq : List AV → List Int → Bool
  | [], [] => true
  | .int .u64 a :: r, b :: t => a == b && intsEq r t
  | _, _ => false
theorem intsEq_eq : ∀ {cs : List AV} {zs : List Int}, intsEq cs zs = true → cs = zs.map (AV.int .u64) := by
  intro cs
  induction cs with
  | nil => intro zs h; cases zs <;> simp [intsEq] at h ⊢
  | cons a cs ih =>
    intro zs h
    cases zs with
    | nil => unfold intsEq at h; split at h <;> simp_all
    | cons b zs =>
      unfold intsEq at h
      split at h
      · simp_all
      · rename_i e1 e2
        injection e1 with e1 e3; injection e2 with e2 e4
        subst e1 e2 e3 e4
        simp only [Bool.and_eq_true, beq_iff_eq] at h
        rw [h.1, ih h.2]; rfl
      · simp at h

def goodS (σ : St) : Bool :=
  (match σ.get 0 with | some (.glob 1 [.iface _ _]) => true | _ => false) && (match σ.get 1 with | some (.glob 2 [.iface _ _]) => true | _ => false) &&
  (match σ.get 2 with | some (.glob 5 cs) => intsEq cs Lib.pow10Tab | _ => false) && (match σ.get 3 with | some (.glob 4 [.int .i64 _]) => true | _ => false)

theorem repL_ints {m : Mp} {w : World} {zs : List Int} {vs : List Value} (h : RepL m w (zs.map (AV.int .u64)) vs) : vs = zs.map fun z => Value.int .u64 z := by
  induction zs generalizing vs with
  | nil => cases h; rfl
  | cons z zs ih =>
    cases h with
    | cons _ v _ y hv ht => cases hv; rw [ih ht]; rfl

theorem good_of {B : Nat} {σ : St} {m : Mp} {w : World} (hs : Sim B σ m w) (h : goodS σ = true) : Good w := by
  unfold goodS at h
  simp only [Bool.and_eq_true] at h
  obtain ⟨⟨⟨h0, h1⟩, h2⟩, h3⟩ := h
  split at h0
  · rename_i t v e0
    split at h1
    · rename_i t1 v1 e1
      split at h2
      · rename_i cs e2
        split at h3
        · rename_i n e3
          obtain ⟨_, c0, el0, fr0, p0, r0⟩ := hs.glob _ _ _ e0
          obtain ⟨_, c1, el1, fr1, p1, r1⟩ := hs.glob _ _ _ e1
          obtain ⟨_, c2, el2, fr2, p2, r2⟩ := hs.glob _ _ _ e2
          obtain ⟨_, c3, el3, fr3, p3, r3⟩ := hs.glob _ _ _ e3
          rw [intsEq_eq h2] at r2
          refine ⟨?_, ?_, ?_, ?_⟩
          · unfold Lib.TabIs World.var?
            rw [show Tryz.prog.globalNamed "internal/strconv.uint64pow10" = some 5 by kernel_rfl]
            simp only [Option.bind_some, p2]
            have := repL_ints r2
            congr 1
            exact Array.ext' (by simpa using this)
          · generalize h5 : c0.toList = l5 at r0
            cases r0 with
            | cons _ u _ y hv ht =>
              cases ht
              cases hv with
              | iface _ _ u' hu => exact ⟨_, u', by unfold World.cell?; simp only [p0]; rw [← Array.getElem?_toList, h5]; rfl⟩
          · generalize h5 : c1.toList = l5 at r1
            cases r1 with
            | cons _ u _ y hv ht =>
              cases ht
              cases hv with
              | iface _ _ u' hu => exact ⟨_, u', by unfold World.cell?; simp only [p1]; rw [← Array.getElem?_toList, h5]; rfl⟩
          · generalize h5 : c3.toList = l5 at r3
            cases r3 with
            | cons _ u _ y hv ht =>
              cases ht
              cases hv
              exact ⟨_, by unfold World.cell?; simp only [p3]; rw [← Array.getElem?_toList, h5]; rfl⟩
        · cases h3
      · cases h2
    · cases h1
  · cases h0

def okL (l : List ByteArray) : Bool := (l.all fun s => Nat.blt s.size 1000000000) && Nat.ble (pk l).length 1000000000
def packSpec (args : List AV) (σ : St) : Option (AV × St) :=
  match args with
  | [.slice o n c 1] => if goodS σ = true then (σ.elems 1 ⟨o, n, c⟩ n).bind fun cs => (strsOf cs).bind fun l => if okL l = true then some (.str ⟨(pk l).toArray⟩, σ) else none else none
  | _ => none
def unpackSpec (args : List AV) (σ : St) : Option (AV × St) :=
  match args with
  | [.str s] => if (goodS σ && Nat.ble s.size 1000000000) = true then
      match upK (s.size + 1) s.data.toList with
      | some [] => some (.tuple [.slice none 0 (some 0) 1, .int .i64 0], σ)
      | some (a :: l) => some (.tuple [.slice (some (σ.next, 0)) (l.length + 1) none 1, .int .i64 0], σ.new (.cells ((a :: l).map fun t => AV.str ⟨t.toArray⟩) true))
      | none => if ((spK s.data.toList).isNone && s.data.toList != []) = true then some (.tuple [.slice none 0 (some 0) 1, .int .i64 4], σ) else none
    else none
  | _ => none

/-- What is known of a function's calls is right. -/
def SndOf (B : Nat) (f : FuncId) (sp : List AV → St → Option (AV × St)) : Prop :=
  (∃ fn, Tryz.prog.funcs[f]? = some fn ∧ fn.body.isSome = true ∧ (fn.name == "runtime.NumGoroutine") = false) ∧ ∀ args σ v σ', sp args σ = some (v, σ') →
    ∀ m w cargs, Sim B σ m w → Fr m σ.next → RepL m w args cargs.toList → Calls Tryz.prog f cargs w fun e w' => ∃ m' cv, e = .returned cv ∧
      Sim B σ' m' w' ∧ Grows m w m' w' ∧ Below B w w' ∧ RepV m' w' v cv ∧ Fr m' σ'.next

theorem one_arg {m : Mp} {w : World} {a : AV} {cargs : Array Value} (hr : RepL m w [a] cargs.toList) : ∃ u, cargs = #[u] ∧ RepV m w a u := by
  generalize hc : cargs.toList = l5 at hr
  cases hr with
  | cons _ u _ y hv ht =>
    cases ht
    exact ⟨u, Array.ext' (by simpa using hc), hv⟩

theorem pack_sound (B : Nat) : SndOf B 118 packSpec := by
  refine ⟨⟨Tryz.f118, Tryz.func118, by kernel_rfl, by kernel_rfl⟩, fun args σ v σ' h' => ?_⟩
  unfold packSpec at h'
  split at h'
  · rename_i o n c
    split at h'
    · rename_i hgd
      simp only [Option.bind_eq_some_iff] at h'
      obtain ⟨cs, hcs, l, hl, h'⟩ := h'
      split at h'
      · rename_i hok
        simp only [Option.some.injEq, Prod.mk.injEq] at h'
        obtain ⟨rfl, rfl⟩ := h'
        intro m w cargs hs hf hr
        obtain ⟨u, rfl, hr2⟩ := one_arg hr
        obtain ⟨ad, c', rfl⟩ := slice_inv' hr2
        obtain ⟨us, q1, q2, q3, q4, q5⟩ := hs.elems hcs (by decide) hr2
        have hce := strsOf_eq hl
        have hll : l.length = n := by have := q1.length; rw [hce] at this; simp at this; omega
        unfold okL at hok
        simp only [Bool.and_eq_true, List.all_eq_true] at hok
        have hsz : ∀ s ∈ l, s.size < 1000000000 := fun s hs => Nat.blt_eq.mp (hok.1 s hs)
        have hlen : (pk l).length ≤ 1000000000 := Nat.le_of_ble_eq_true hok.2
        rw [pk_eq hsz] at hlen ⊢
        have hg := good_of hs hgd
        have := Tryz.pack_walk l ad c' w (fun i s his => ?_) (by omega) hg.tab
        · rw [hll] at this
          refine this.mono ?_
          rintro e w' ⟨rfl, hb⟩
          obtain ⟨g1, g2, g3⟩ := sim_behind hs hb
          exact ⟨m, _, rfl, g1, g2, g3, .str _, hf⟩
        · have hci : cs[i]? = some (.str s) := by rw [hce, List.getElem?_map, his]; rfl
          obtain ⟨x, hx, hxr⟩ := q1.get hci
          have := str_inv hxr
          subst this
          cases ad with
          | none => rw [q5 rfl] at hx; cases hx
          | some a =>
            have hcell := q4 a rfl i _ hx
            refine ⟨a, rfl, ?_, hcell⟩
            have := World.block_lt_of_cell? _ _ hcell
            have e : (a.add i).block = a.block := by unfold Addr.add; split <;> rfl
            rw [e] at this; exact this
      · cases h'
    · cases h'
  · cases h'

theorem unpack_sound (B : Nat) : SndOf B 69 unpackSpec := by
  refine ⟨⟨Tryz.f69, Tryz.func69, by kernel_rfl, by kernel_rfl⟩, fun args σ v σ' h m w cargs hs hf hr => ?_⟩
  unfold unpackSpec at h
  split at h
  · rename_i s
    split at h
    · rename_i hgd
      simp only [Bool.and_eq_true] at hgd
      have hg := good_of hs hgd.1
      have hsz : s.size ≤ 1000000000 := Nat.le_of_ble_eq_true hgd.2
      obtain ⟨u, rfl, hr2⟩ := one_arg hr
      obtain rfl := str_inv hr2
      refine (Tryz.unpack_ok s (by omega) w hg hg.lt).mono ?_
      rintro e w' ⟨cv, rfl, hres, hb⟩
      unfold unpackRes at hres
      split at h
      · rename_i hu
        simp only [Option.some.injEq, Prod.mk.injEq] at h
        obtain ⟨rfl, rfl⟩ := h
        rw [upK_ok hu] at hres
        obtain ⟨u, rfl, _, hn⟩ := hres
        obtain rfl := hn.2 rfl
        obtain ⟨g1, g2, g3⟩ := sim_behind hs hb
        exact ⟨m, _, rfl, g1, g2, g3, .tuple _ _ (.cons _ _ _ _ (.snil 1) (.cons _ _ _ _ (.int _ _) .nil)), hf⟩
      · rename_i a l hu
        simp only [Option.some.injEq, Prod.mk.injEq] at h
        obtain ⟨rfl, rfl⟩ := h
        rw [upK_ok hu] at hres
        obtain ⟨u, rfl, ho, _⟩ := hres
        obtain ⟨m', p1, p2, p3, p4, p5⟩ := texts_behind hs hb hf (by simp) ho
        simp only [List.map_map, List.length_map, List.length_cons] at p1 p5
        exact ⟨m', _, rfl, p1, p2, p3, .tuple _ _ (.cons _ _ _ _ p5 (.cons _ _ _ _ (.int _ _) .nil)), p4⟩
      · split at h
        · rename_i hbad
          simp only [Bool.and_eq_true, bne_iff_ne, ne_eq, Option.isNone_iff_eq_none] at hbad
          simp only [Option.some.injEq, Prod.mk.injEq] at h
          obtain ⟨rfl, rfl⟩ := h
          rw [(no58_bad hbad.1 hbad.2).1] at hres
          subst hres
          obtain ⟨g1, g2, g3⟩ := sim_behind hs hb
          exact ⟨m, _, rfl, g1, g2, g3, .tuple _ _ (.cons _ _ _ _ (.snil 1) (.cons _ _ _ _ (.int _ _) .nil)), hf⟩
        · cases h
    · cases h
  · cases h

/-- What is known of the list of functions that are known. -/
def specOf : List (FuncId × (List AV → St → Option (AV × St))) → FuncId → List AV → St → Option (AV × St)
  | [], _, _, _ => none
  | (g, sp) :: l, f, args, σ => if f = g then sp args σ else specOf l f args σ
theorem specOf_sound {B : Nat} : ∀ {l : List (FuncId × (List AV → St → Option (AV × St)))}, (∀ p ∈ l, SndOf B p.1 p.2) → ∀ {f args σ v σ'}, specOf l f args σ = some (v, σ') →
    (∃ fn, Tryz.prog.funcs[f]? = some fn ∧ fn.body.isSome = true ∧ (fn.name == "runtime.NumGoroutine") = false) ∧
    ∀ m w cargs, Sim B σ m w → Fr m σ.next → RepL m w args cargs.toList → Calls Tryz.prog f cargs w fun e w' => ∃ m' cv, e = .returned cv ∧
      Sim B σ' m' w' ∧ Grows m w m' w' ∧ Below B w w' ∧ RepV m' w' v cv ∧ Fr m' σ'.next := by
  intro l
  induction l with
  | nil => intro _ f args σ v σ' h; cases h
  | cons p l ih =>
    intro hp f args σ v σ' h
    obtain ⟨g, sp⟩ := p
    unfold specOf at h
    split at h
    · rename_i e; subst e
      exact ⟨(hp _ (List.mem_cons_self ..)).1, (hp _ (List.mem_cons_self ..)).2 args σ v σ' h⟩
    · exact ih (fun q hq => hp q (List.mem_cons_of_mem _ hq)) h
abbrev peerSpec : AM.Spec := ⟨fun _ f args σ => specOf [(118, packSpec), (69, unpackSpec)] f args σ⟩
theorem peer_sound (B : Nat) : SpecSound peerSpec B Tryz.prog :=
  ⟨fresh_sound, fun _ _ _ _ _ _ h => specOf_sound (B := B) (fun p hp => by
    simp only [List.mem_cons, List.not_mem_nil, or_false] at hp
    rcases hp with rfl | rfl
    · exact pack_sound B
    · exact unpack_sound B) h⟩
end Go.Proofs.YtbgepjggclhfiaaGreatDoor
