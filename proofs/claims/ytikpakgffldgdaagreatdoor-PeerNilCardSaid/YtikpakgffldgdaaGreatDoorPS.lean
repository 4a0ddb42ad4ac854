/- What is known of nest.Pack and nest.Unpack ahead of the run is right. -/
import Derived.Test.YtikpakgffldgdaaGreatDoorA32
import Derived.Test.YtikpakgffldgdaaGreatDoorPL4
import Derived.Test.YtikpakgffldgdaaGreatDoorPF
namespace Go.Proofs.YtikpakgffldgdaaGreatDoor
open Go.AM Go.RowKit
set_option maxRecDepth 100000
set_option linter.unusedVariables false

/-- Decimal digits. -/
def dg : Nat → Nat → List UInt8
  | 0, _ => []
  | f + 1, u => if u < 10 then [UInt8.ofNat (48 + u)] else dg f (u / 10) ++ [UInt8.ofNat (48 + u % 10)]
theorem dg_eq : ∀ (f u : Nat), u < 10 ^ (f + 1) → dg (f + 1) u = Lib.decDigits u := by
  intro f
  induction f with
  | zero =>
    intro u h
    rw [Lib.decDigits, dg, dif_pos (by simpa using h), if_pos (by simpa using h)]
  | succ f ih =>
    intro u h
    rw [Lib.decDigits, dg]
    by_cases h10 : u < 10
    · rw [dif_pos h10, if_pos h10]
    · rw [dif_neg h10, if_neg h10, ih (u / 10) (by rw [Nat.pow_succ] at h; omega)]
def pkOne (s : ByteArray) : List UInt8 := dg 12 s.size ++ 58 :: (s.data.toList ++ [44])
def pk (l : List ByteArray) : List UInt8 := l.flatMap pkOne
theorem pkOne_eq {s : ByteArray} (h : s.size < 1000000000) : pkOne s = packOne s := by
  unfold pkOne packOne Lib.itoa
  rw [if_neg (by omega), dg_eq 11 s.size (by omega)]
  rfl
theorem pk_eq {l : List ByteArray} (h : ∀ s ∈ l, s.size < 1000000000) : pk l = packAll l := by
  induction l with
  | nil => rfl
  | cons a l ih =>
    have := ih fun s hs => h s (List.mem_cons_of_mem _ hs)
    unfold pk packAll at this ⊢
    rw [List.flatMap_cons, List.flatMap_cons, this, pkOne_eq (h a (by simp))]

def strsOf : List AV → Option (List ByteArray)
  | [] => some []
  | .str s :: r => (strsOf r).map (s :: ·)
  | _ => none
theorem strsOf_eq : ∀ {cs : List AV} {l : List ByteArray}, strsOf cs = some l → cs = l.map AV.str := by
  intro cs
  induction cs with
  | nil => intro l h; simp [strsOf] at h; subst h; rfl
  | cons a cs ih =>
    intro l h
    cases a <;> simp [strsOf] at h
    obtain ⟨r, h1, rfl⟩ := h
    rw [ih h1]; rfl
def intsEq : List AV → List Int → Bool
  | [], [] => true
  | .int .u64 a :: r, b :: t => a == b && intsEq r t
  | _, _ => false
theorem intsEq_eq : ∀ {cs : List AV} {zs : List Int}, intsEq cs zs = true → cs = zs.map (AV.int .u64) := by
  intro cs
  induction cs with
  | nil => intro zs h; cases zs <;> simp [intsEq] at h ⊢
  | cons a cs ih =>
    intro zs h
    cases zs with
    | nil => unfold intsEq at h; split at h <;> simp_all
    | cons b zs =>
      unfold intsEq at h
      split at h
      · simp_all
      · rename_i e1 e2
        injection e1 with e1 e3; injection e2 with e2 e4
        subst e1 e2 e3 e4
        simp only [Bool.and_eq_true, beq_iff_eq] at h
        rw [h.1, ih h.2]; rfl
      · simp at h

def goodS (σ : St) : Bool :=
  (match σ.get 0 with | some (.glob 1 [.iface _ _]) => true | _ => false) && (match σ.get 1 with | some (.glob 2 [.iface _ _]) => true | _ => false) &&
  (match σ.get 2 with | some (.glob 4 cs) => intsEq cs Lib.pow10Tab | _ => false) && (match σ.get 3 with | some (.glob 5 [.int .i64 _]) => true | _ => false)

theorem repL_ints {m : Mp} {w : World} {zs : List Int} {vs : List Value} (h : RepL m w (zs.map (AV.int .u64)) vs) : vs = zs.map fun z => Value.int .u64 z := by
  induction zs generalizing vs with
  | nil => cases h; rfl
  | cons z zs ih =>
    cases h with
    | cons _ v _ y hv ht => cases hv; rw [ih ht]; rfl

theorem good_of {B : Nat} {σ : St} {m : Mp} {w : World} (hs : Sim B σ m w) (h : goodS σ = true) : Good w := by
  unfold goodS at h
  simp only [Bool.and_eq_true] at h
  obtain ⟨⟨⟨h0, h1⟩, h2⟩, h3⟩ := h
  split at h0
  · rename_i t v e0
    split at h1
    · rename_i t1 v1 e1
      split at h2
      · rename_i cs e2
        split at h3
        · rename_i n e3
          obtain ⟨_, c0, el0, fr0, p0, r0⟩ := hs.glob _ _ _ e0
          obtain ⟨_, c1, el1, fr1, p1, r1⟩ := hs.glob _ _ _ e1
          obtain ⟨_, c2, el2, fr2, p2, r2⟩ := hs.glob _ _ _ e2
          obtain ⟨_, c3, el3, fr3, p3, r3⟩ := hs.glob _ _ _ e3
          rw [intsEq_eq h2] at r2
          refine ⟨?_, ?_, ?_, ?_⟩
          · unfold Lib.TabIs World.var?
            rw [show Tryz.prog.globalNamed "internal/strconv.uint64pow10" = some 4 by kernel_rfl]
            simp only [Option.bind_some, p2]
            have := repL_ints r2
            congr 1
            exact Array.ext' (by simpa using this)
          · generalize h5 : c0.toList = l5 at r0
            cases r0 with
            | cons _ u _ y hv ht =>
              cases ht
              cases hv with
              | iface _ _ u' hu => exact ⟨_, u', by unfold World.cell?; simp only [p0]; rw [← Array.getElem?_toList, h5]; rfl⟩
          · generalize h5 : c1.toList = l5 at r1
            cases r1 with
            | cons _ u _ y hv ht =>
              cases ht
              cases hv with
              | iface _ _ u' hu => exact ⟨_, u', by unfold World.cell?; simp only [p1]; rw [← Array.getElem?_toList, h5]; rfl⟩
          · generalize h5 : c3.toList = l5 at r3
            cases r3 with
            | cons _ u _ y hv ht =>
              cases ht
              cases hv
              exact ⟨_, by unfold World.cell?; simp only [p3]; rw [← Array.getElem?_toList, h5]; rfl⟩
        · cases h3
      · cases h2
    · cases h1
  · cases h0

/-- What only lays new blocks leaves all as it is. -/
theorem sim_behind {B : Nat} {σ : St} {m : Mp} {w w' : World} (hs : Sim B σ m w) (hb : Below w.heap.size w w') : Sim B σ m w' ∧ Grows m w m w' ∧ Below B w w' := by
  have hB : Below B w w' := below_le hb hs.le
  have g : Grows m w m w' := by
    refine ⟨fun _ _ h => h, fun k => ?_⟩
    by_cases hk : k < w.heap.size
    · unfold blkSize; rw [hb.block k hk]; exact Nat.le_refl _
    · unfold blkSize
      rw [Array.getElem?_eq_none (by omega)]
      exact Nat.zero_le _
  refine ⟨⟨?_, ?_, hs.sep, Nat.le_trans hs.le hb.size, hs.globs g hB fun _ _ _ h => h⟩, g, hB⟩
  · intro id cs own h
    obtain ⟨L, ccs, el, fr, p1, p2, p3, p4, p5, p6⟩ := hs.row id cs own h
    exact ⟨L, ccs, el, fr, p1, p2, by rw [hb.block _ (Array.getElem?_eq_some_iff.1 p3).1]; exact p3, p4, RepL.mono g p5, p6⟩
  · intro id x h hx
    obtain ⟨L, o, p1, p2, p3, p4⟩ := hs.obj id x h hx
    exact ⟨L, o, p1, p2, by rw [hb.block _ (Array.getElem?_eq_some_iff.1 p3).1]; exact p3, p4.mono g⟩

def okL (l : List ByteArray) : Bool := (l.all fun s => Nat.blt s.size 1000000000) && Nat.ble (pk l).length 1000000000
def packSpec (args : List AV) (σ : St) : Option (AV × St) :=
  match args with
  | [.slice o n c 1] => if goodS σ = true then (σ.elems 1 ⟨o, n, c⟩ n).bind fun cs => (strsOf cs).bind fun l => if okL l = true then some (.str ⟨(pk l).toArray⟩, σ) else none else none
  | _ => none
def unpackSpec (args : List AV) (σ : St) : Option (AV × St) :=
  match args with
  | [.str s] => if s.data.toList = [120] then (if goodS σ = true then some (.tuple [.slice none 0 (some 0) 1, .int .i64 4], σ) else none) else none
  | _ => none
abbrev peerSpec : AM.Spec := ⟨fun _ f args σ => if f = 111 then packSpec args σ else if f = 68 then unpackSpec args σ else none⟩

theorem num_x : toNumL ⟨#[120]⟩ = none := by decide
theorem take_x : takeL ⟨#[120]⟩ = none := by
  have h : Lib.cut ((⟨#[120]⟩ : ByteArray).data.toList) [58] = ([120], [], false) := by decide
  have h2 : toNumL ⟨([120] : List UInt8).toArray⟩ = none := num_x
  unfold takeL
  rw [h]
  simp only [h2]

theorem peer_sound (B : Nat) : SpecSound peerSpec B Tryz.prog := by
  refine ⟨fresh_sound, fun dem f args σ v σ' h => ?_⟩
  have h' : (if f = 111 then packSpec args σ else if f = 68 then unpackSpec args σ else none) = some (v, σ') := h
  split at h'
  · rename_i hf
    subst hf
    refine ⟨⟨Tryz.f111, Tryz.func111, by kernel_rfl, by kernel_rfl⟩, ?_⟩
    unfold packSpec at h'
    split at h'
    · rename_i o n c
      split at h'
      · rename_i hgd
        simp only [Option.bind_eq_some_iff] at h'
        obtain ⟨cs, hcs, l, hl, h'⟩ := h'
        split at h'
        · rename_i hok
          simp only [Option.some.injEq, Prod.mk.injEq] at h'
          obtain ⟨rfl, rfl⟩ := h'
          intro m w cargs hs hf hr
          obtain ⟨u, hu, hr2⟩ : ∃ u, cargs = #[u] ∧ RepV m w (.slice o n c 1) u := by
            generalize hc : cargs.toList = l5 at hr
            cases hr with
            | cons _ u _ y hv ht =>
              cases ht
              exact ⟨u, Array.ext' (by simpa using hc), hv⟩
          subst hu
          obtain ⟨ad, c', rfl⟩ := slice_inv' hr2
          obtain ⟨us, q1, q2, q3, q4, q5⟩ := hs.elems hcs (by decide) hr2
          have hce := strsOf_eq hl
          have hll : l.length = n := by have := q1.length; rw [hce] at this; simp at this; omega
          unfold okL at hok
          simp only [Bool.and_eq_true, List.all_eq_true] at hok
          have hsz : ∀ s ∈ l, s.size < 1000000000 := fun s hs => Nat.blt_eq.mp (hok.1 s hs)
          have hlen : (pk l).length ≤ 1000000000 := Nat.le_of_ble_eq_true hok.2
          rw [pk_eq hsz] at hlen ⊢
          have hg := good_of hs hgd
          have := Tryz.pack_walk l ad c' w (fun i s his => ?_) (by omega) hg.tab
          · rw [hll] at this
            refine this.mono ?_
            rintro e w' ⟨rfl, hb⟩
            obtain ⟨g1, g2, g3⟩ := sim_behind hs hb
            exact ⟨m, _, rfl, g1, g2, g3, .str _, hf⟩
          · have hci : cs[i]? = some (.str s) := by rw [hce, List.getElem?_map, his]; rfl
            obtain ⟨x, hx, hxr⟩ := q1.get hci
            have := str_inv hxr
            subst this
            cases ad with
            | none => rw [q5 rfl] at hx; cases hx
            | some a =>
              have hcell := q4 a rfl i _ hx
              refine ⟨a, rfl, ?_, hcell⟩
              have := World.block_lt_of_cell? _ _ hcell
              have e : (a.add i).block = a.block := by unfold Addr.add; split <;> rfl
              rw [e] at this; exact this
        · cases h'
      · cases h'
    · cases h'
  · split at h'
    · rename_i hf
      subst hf
      refine ⟨⟨Tryz.f68, Tryz.func68, by kernel_rfl, by kernel_rfl⟩, ?_⟩
      unfold unpackSpec at h'
      split at h'
      · rename_i s
        split at h'
        · rename_i hx
          split at h'
          · rename_i hgd
            simp only [Option.some.injEq, Prod.mk.injEq] at h'
            obtain ⟨rfl, rfl⟩ := h'
            intro m w cargs hs hf hr
            obtain ⟨u, hu, hr2⟩ : ∃ u, cargs = #[u] ∧ RepV m w (.str s) u := by
              generalize hc : cargs.toList = l5 at hr
              cases hr with
              | cons _ u _ y hv ht =>
                cases ht
                exact ⟨u, Array.ext' (by simpa using hc), hv⟩
            subst hu
            obtain rfl := str_inv hr2
            have hse : s = ⟨#[120]⟩ := by
              cases s with
              | mk d => congr 1; exact Array.ext' (by simpa using hx)
            subst hse
            refine (Tryz.unpack_bad ⟨#[120]⟩ (by decide) take_x (by decide) w (good_of hs hgd)).mono ?_
            rintro e w' ⟨rfl, hb⟩
            obtain ⟨g1, g2, g3⟩ := sim_behind hs hb
            exact ⟨m, _, rfl, g1, g2, g3, .tuple _ _ (.cons _ _ _ _ (.snil 1) (.cons _ _ _ _ (.int _ _) .nil)), hf⟩
          · cases h'
        · cases h'
      · cases h'
    · cases h'
end Go.Proofs.YtikpakgffldgdaaGreatDoor
