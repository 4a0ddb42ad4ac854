/- What is known ahead of a tale's functions: nest's functions, ticks. -/
import Derived.Test.YtnjhcfcnpapaiaaGreatDoorTK
import Derived.Test.YtnjhcfcnpapaiaaGreatDoorA32
import Derived.Test.YtnjhcfcnpapaiaaGreatDoorTaAnn
import Derived.Test.YtnjhcfcnpapaiaaGreatDoorTH
import Derived.Test.YtnjhcfcnpapaiaaGreatDoorTaCho
import Derived.Test.YtnjhcfcnpapaiaaGreatDoorTaChn
import Derived.Test.YtnjhcfcnpapaiaaGreatDoorTaFrm
import Derived.Test.YtnjhcfcnpapaiaaGreatDoorTaPrs
set_option linter.unusedVariables false
set_option linter.unusedSimpArgs false
namespace Go.Proofs.YtnjhcfcnpapaiaaGreatDoor
open Go.AM Go.RowKit
set_option maxRecDepth 100000

def ticksSpec (args : List AV) (σ : St) : Option (AV × St) :=
  match args with
  | [] => if goodS σ = true then some (.bool true, σ) else none
  | _ => none
theorem ticks_sound (B : Nat) : SndOf B 6 ticksSpec := by
  refine ⟨⟨Tryz.f6, Tryz.func6, by kernel_rfl, by kernel_rfl⟩, fun args σ v σ' h m w cargs hs hf hr => ?_⟩
  unfold ticksSpec at h
  split at h
  · split at h
    · rename_i hg
      simp only [Option.some.injEq, Prod.mk.injEq] at h
      obtain ⟨rfl, rfl⟩ := h
      obtain ⟨t1, t2, z, hs0, hf0⟩ := start_sim (good_start hs hg)
      refine (calls_yes (S := runSpec) (by kernel_rfl) (ticks_run t1 t2 z) (run_sound _) hs0 hf0 (reps_plain [] _ rfl hr)).mono ?_
      rintro e w' ⟨rfl, hb⟩
      obtain ⟨g1, g2, g3⟩ := sim_behind hs hb
      exact ⟨m, _, rfl, g1, g2, g3, .bool _, hf⟩
    · cases h
  · cases h

abbrev known1 : List (FuncId × (List AV → St → Option (AV × St))) := [(15, packG), (16, unpackG), (27, numG), (35, toNumG), (6, ticksSpec)]
abbrev lvl1 : AM.Spec := ⟨fun _ f args σ => specOf known1 f args σ⟩
theorem known1_sound (B : Nat) : ∀ p ∈ known1, SndOf B p.1 p.2 := by
  intro p hp
  simp only [List.mem_cons, List.not_mem_nil, or_false] at hp
  rcases hp with rfl | rfl | rfl | rfl | rfl
  · exact packG_sound B
  · exact unpackG_sound B
  · exact numG_sound B
  · exact toNumG_sound B
  · exact ticks_sound B
theorem lvl1_sound (B : Nat) : SpecSound lvl1 B Tryz.prog := ⟨fresh_sound, fun _ _ _ _ _ _ h => specOf_sound (B := B) (known1_sound B) h⟩

theorem specOf_none {l : List (FuncId × (List AV → St → Option (AV × St)))} {f : FuncId} (h : (l.all fun p => f != p.1) = true) (args : List AV) (σ : St) : specOf l f args σ = none := by
  induction l with
  | nil => rfl
  | cons p l ih =>
    simp only [List.all_cons, Bool.and_eq_true, bne_iff_ne, ne_eq] at h
    obtain ⟨g, sp⟩ := p
    unfold specOf
    rw [if_neg h.1]
    exact ih h.2

/-- A row that is read: of n elements of z cells each, whoever may write it. -/
def Row (z : Nat) (v : AV) (n : Nat) (xs : List AV) (h : Hp) : Prop :=
  xs.length = n * z ∧ ((∃ o c, v = .slice o 0 c z ∧ n = 0 ∧ h = []) ∨ ∃ b c junk own, v = .slice (some (b, 0)) n c z ∧ h = [(b, .cells (xs ++ junk) own)])
theorem Row.ofVec {z : Nat} {v : AV} {n : Nat} {xs : List AV} {h : Hp} (hv : Vec z v n xs h) : Row z v n xs h := by
  refine ⟨hv.1, ?_⟩
  rcases hv.2 with ⟨rfl, rfl, rfl⟩ | ⟨b, c, junk, rfl, rfl, _⟩
  · exact .inl ⟨_, _, rfl, rfl, rfl⟩
  · exact .inr ⟨b, c, junk, true, rfl, rfl⟩
theorem Row.ofArg {z : Nat} {v : AV} {n : Nat} {xs : List AV} {h : Hp} (hv : Arg z v n xs h) : Row z v n xs h := by
  refine ⟨hv.1, ?_⟩
  rcases hv.2 with ⟨o, c, rfl, rfl, rfl⟩ | ⟨b, c, rfl, rfl⟩
  · exact .inl ⟨_, _, rfl, rfl, rfl⟩
  · exact .inr ⟨b, c, [], false, rfl, by simp⟩
theorem Row.sl {z : Nat} {v : AV} {n : Nat} {xs : List AV} {h : Hp} (hv : Row z v n xs h) : ∃ o c, v = .slice o n c z := by
  rcases hv.2 with ⟨o, c, rfl, rfl, rfl⟩ | ⟨b, c, junk, own, rfl, rfl⟩
  · exact ⟨_, _, rfl⟩
  · exact ⟨_, _, rfl⟩
theorem Row.ld {z : Nat} {o : Option (Nat × Nat)} {n : Nat} {c : Option Nat} {xs : List AV} {h r : Hp} {σ : St} (hv : Row z (.slice o n c z) n xs h) (H : HasH σ (h ++ r)) {i : Nat} {x : AV} (hi : xs[i]? = some x) :
    ∃ b, o = some (b, 0) ∧ σ.ld b i = some x := by
  rcases hv.2 with ⟨o, c, e, rfl, rfl⟩ | ⟨b, c', junk, own, e, rfl⟩
  · have := hv.1
    simp at this
    subst this
    simp at hi
  · injection e with e1 e2 e3 e4
    refine ⟨b, e1, ?_⟩
    have hg : σ.get b = some (.cells (xs ++ junk) own) := H.g1
    rw [St.ld_of _ hg, List.getElem?_append_left (by obtain ⟨h, _⟩ := List.getElem?_eq_some_iff.1 hi; exact h)]
    exact hi
theorem Row.elems {o : Option (Nat × Nat)} {n : Nat} {c : Option Nat} {xs : List AV} {h r : Hp} {σ : St} (hv : Row 1 (.slice o n c 1) n xs h) (H : HasH σ (h ++ r)) {k : Nat} (hk : k ≤ n) : σ.elems 1 ⟨o, k, c⟩ k = some (xs.take k) := by
  have hl := hv.1
  rcases hv.2 with ⟨o, c, e, rfl, rfl⟩ | ⟨b, c', junk, own, e, rfl⟩
  · obtain rfl : k = 0 := by omega
    rfl
  · injection e with e1 e2 e3 e4
    subst e1
    have hg : σ.get b = some (.cells (xs ++ junk) own) := H.g1
    by_cases h0 : k = 0
    · subst h0; rfl
    · rw [elems_pos h0]
      simp only [Nat.le_refl, if_true, Option.bind_some, Nat.mul_one]
      rw [lds_get, hg]
      simp only [List.drop_zero, Nat.zero_add]
      rw [if_pos (by simp; omega), List.take_append_of_le_length (by omega)]
theorem strsOf_map : ∀ l : List ByteArray, strsOf (l.map AV.str) = some l
  | [] => rfl
  | s :: l => by simp [strsOf, strsOf_map l]

/-- The state's variables are right. -/
def gl (t1 t2 : TypeId) (z : Int) : Hp := [(0, .glob 0 [.iface t1 .undef]), (1, .glob 1 [.iface t2 .undef]), (2, .glob 3 tabAV), (3, .glob 4 [.int .i64 z])]
theorem intsEq_map : ∀ zs : List Int, intsEq (zs.map (AV.int .u64)) zs = true
  | [] => rfl
  | z :: zs => by simp [intsEq, intsEq_map zs]
theorem good_gl {t1 t2 : TypeId} {z : Int} {σ : St} (H : ∀ p ∈ gl t1 t2 z, σ.get p.1 = some p.2) : goodS σ = true := by
  have h0 : σ.get 0 = some (.glob 0 [.iface t1 .undef]) := H (0, _) (by simp [gl])
  have h1 : σ.get 1 = some (.glob 1 [.iface t2 .undef]) := H (1, _) (by simp [gl])
  have h2 : σ.get 2 = some (.glob 3 tabAV) := H (2, _) (by simp [gl])
  have h3 : σ.get 3 = some (.glob 4 [.int .i64 z]) := H (3, _) (by simp [gl])
  unfold goodS
  rw [h0, h1, h2, h3]
  simp only [Bool.and_true, Bool.true_and]
  exact intsEq_map _
theorem start_has (t1 t2 : TypeId) (z : Int) : HasH (σ0 t1 t2 z) (gl t1 t2 z) := by
  refine ⟨by simp [gl], ?_, ?_⟩
  · intro p hp
    simp only [gl, List.mem_cons, List.not_mem_nil, or_false] at hp
    rw [get_new0]
    rcases hp with rfl | rfl | rfl | rfl <;> rfl
  · intro p hp
    simp only [gl, List.mem_cons, List.not_mem_nil, or_false] at hp
    rcases hp with rfl | rfl | rfl | rfl
    · exact (show (0 : Nat) < 4 by decide)
    · exact (show (1 : Nat) < 4 by decide)
    · exact (show (2 : Nat) < 4 by decide)
    · exact (show (3 : Nat) < 4 by decide)
end Go.Proofs.YtnjhcfcnpapaiaaGreatDoor

set_option linter.unusedVariables false
set_option linter.unusedSimpArgs false
namespace Go.Proofs.YtnjhcfcnpapaiaaGreatDoor
open Go.AM
set_option maxRecDepth 100000

instance tale1 : AM.Spec := lvl1

theorem go1 {R : Type} (f : FuncId) (hf : (known1.all fun p => f != p.1) = true) (N d : Nat) (dem : Bool) (args : List AV) (σ : St) (K : AV → St → Option R) :
    callK Tryz.prog N ann (d + 1) dem f args σ K = bodyK Tryz.prog (callK Tryz.prog N ann d) dem N ann f args σ K :=
  callK_succ _ _ _ _ _ _ _ _ _ (specOf_none hf args σ)
theorem know1 {R : Type} {f : FuncId} {args : List AV} {σ σ' : St} {v : AV} (h : specOf known1 f args σ = some (v, σ')) (N d : Nat) (dem : Bool) (K : AV → St → Option R) :
    callK Tryz.prog N ann (d + 1) dem f args σ K = K v σ' := by
  show (match specOf known1 f args σ with | some r => K r.1 r.2 | none => _) = _
  rw [h]

theorem beq_func (f : Fn) (a b : List AV) : AV.beq (.func f a b) (.func f a b) = (AV.beqL a a && AV.beqL b b) := hide (by simp [AV.beq])
attribute [go_sem] beq_func

theorem has_up2 {σ : St} {h r : Hp} {p q : Nat × Blk} (H : HasH σ (h ++ p :: q :: r)) : HasH σ (p :: q :: (h ++ r)) :=
  H.perm ((List.perm_middle).trans ((List.perm_middle).cons _))
theorem has_down2 {σ : St} {h r : Hp} {p q : Nat × Blk} (H : HasH σ (p :: q :: (h ++ r))) : HasH σ (h ++ p :: q :: r) :=
  H.perm ((List.perm_middle).trans ((List.perm_middle).cons _)).symm

variable {N d : Nat} {dem : Bool} {σ : St} {K : AV → St → Option Unit}

theorem num1 {n : Int} (hg : goodS σ = true) (hn : i64 n) : callK Tryz.prog N ann (d + 1) dem 27 [.int .i64 n] σ K = K (.str (itoaB n)) σ := by
  refine know1 ?_ N d dem K
  show numG [.int .i64 n] σ = _
  unfold numG
  simp only [hg, inI64_iff.2 hn, Bool.and_self, if_true]
  rfl

theorem add_ok {bl bt : Nat} {o : Option (Nat × Nat)} {c : Option Nat} {n : Nat} {xs : List AV} {hv r : Hp} {t i : Int} {s : ByteArray} {nn : Bool}
    (hV : Vec 1 (.slice o n c 1) n xs hv) (hn : n ≤ 1000) (H : HasH σ ((bl, .cells [.slice o n c 1] true) :: (bt, .cells [.int .i64 t] true) :: (hv ++ r)))
    (kont : ∀ σ' o' c' hv', Vec 1 (.slice o' (n + 1) c' 1) (n + 1) (xs ++ [.str s]) hv' →
      HasH σ' ((bl, .cells [.slice o' (n + 1) c' 1] true) :: (bt, .cells [.int .i64 (if nn = true then t else i)] true) :: (hv' ++ r)) → K (.tuple []) σ' = some ()) :
    callK Tryz.prog N ann (d + 1) dem 28 [.int .i64 i, .str s, .bool nn, .ptr (some (bl, 0)), .ptr (some (bt, 0))] σ K = some () := by
  have hg1 : σ.get bl = _ := H.g1
  have n1 : (bl = σ.next) = False := eq_false (by have := H.l1; omega)
  have n2 : (bl = bt) = False := eq_false (H.n12)
  have n3 : (bt = bl) = False := eq_false (Ne.symm H.n12)
  obtain ⟨o', c', σ', h', happ, hv', H'⟩ := hV.app (bytes := 16) (k := 1) (news := [AV.str s]) (has_down2 (H.new' (.cells [.str s] true))) (by decide) (by decide) rfl (by omega)
  have H2 := has_up2 H'
  have hg2 : σ'.get bl = _ := H2.g1
  have hg3 : σ'.get bt = _ := H2.g2
  rw [go1 28 rfl, f28_eq]
  simp only [go_sem, hg1, n1, elems_pos (show 1 ≠ 0 by decide), happ, hg2]
  cases nn with
  | true =>
    simp only [go_sem, Bool.not_true]
    exact kont _ o' c' h' hv' (by simpa using H2.put _)
  | false =>
    simp only [go_sem, Bool.not_false, hg3, n3]
    exact kont _ o' c' h' hv' (by simpa using (H2.put _).rot.put _ |>.rot)

theorem wrap_small {n : Int} (h1 : -9223372036854775808 ≤ n) (h2 : n ≤ 9223372036854775807) : IntKind.i64.wrap n = n := by
  rw [IntKind.wrap_i64]; omega

def ptrs8 (c : Nat) : List AV := [.ptr (some (c, 0)), .ptr (some (c, 1)), .ptr (some (c, 2)), .ptr (some (c, 3)), .ptr (some (c, 4)), .ptr (some (c, 5)), .ptr (some (c, 6)), .ptr (some (c, 7))]
def ptrs4 (c : Nat) : List AV := [.ptr (some (c, 8)), .ptr (some (c, 9)), .ptr (some (c, 10)), .ptr (some (c, 11))]
theorem ptrs8_at (c : Nat) : ∀ i, i < 8 → (ptrs8 c)[i]? = some (.ptr (some (c, i)))
  | 0, _ => rfl | 1, _ => rfl | 2, _ => rfl | 3, _ => rfl | 4, _ => rfl | 5, _ => rfl | 6, _ => rfl | 7, _ => rfl
  | _ + 8, h => by omega
theorem ptrs4_at (c : Nat) : ∀ i, i < 4 → (ptrs4 c)[i]? = some (.ptr (some (c, 8 + i)))
  | 0, _ => rfl | 1, _ => rfl | 2, _ => rfl | 3, _ => rfl
  | _ + 4, h => by omega

theorem numbers_eq (c : Nat) : callK Tryz.prog N ann (d + 1) dem 63 [.ptr (some (c, 0))] σ K = K (.slice (some (σ.next, 0)) 8 (some 8) 1) (σ.new (.cells (ptrs8 c) true)) := by
  rw [go1 63 rfl, f63_eq]
  simp only [go_sem, Nat.zero_add]
  rfl
theorem texts_eq (c : Nat) : callK Tryz.prog N ann (d + 1) dem 64 [.ptr (some (c, 0))] σ K = K (.slice (some (σ.next, 0)) 4 (some 4) 1) (σ.new (.cells (ptrs4 c) true)) := by
  rw [go1 64 rfl, f64_eq]
  simp only [go_sem, Nat.zero_add]
  rfl

/-- What stands behind so many fields. -/
structure Steps (Q : Nat → Hp → St → Prop) : Prop where
  new : ∀ i fr σ x, Q i fr σ → Q i ((σ.next, x) :: fr) (σ.new x)
  has : ∀ i fr σ, Q i fr σ → HasH σ fr
  drop : ∀ i p fr σ, Q i (p :: fr) σ → Q i fr σ

variable {J : KF Unit}
theorem each_l1 {Q : Nat → Hp → St → Prop} (hQ : Steps Q) {c k1 k2 p1 p2 row : Nat} {fr : Hp}
    (h1 : ∀ (i : Nat) fr σ (K : AV → St → Option Unit), i < 8 → Q i fr σ → (∀ σ', Q (i + 1) fr σ' → K (.tuple []) σ' = some ()) → callK Tryz.prog N ann d dem k1 [.int .i64 i, .ptr (some (c, i)), .ptr (some (p1, 0))] σ K = some ()) :
    ∀ (m i k : Nat) (σ : St), i + m = 8 → m < k → Q i ((row, .cells (ptrs8 c) true) :: fr) σ → (∀ σ', Q 8 ((row, .cells (ptrs8 c) true) :: fr) σ' → J (.exit 0) (f29e4 (some (c, 0)) k2 p2) σ' = some ()) →
      loopK (f29L5 (callK Tryz.prog N ann d) dem N) f29a5 k J (f29e2 (some (c, 0)) k1 p1 k2 p2 (some (row, 0)) 8 (some 8) 8 (i : Int)) σ = some () := by
  intro m
  induction m with
  | zero =>
    intro i k σ hi hk hq kf
    obtain ⟨k, rfl⟩ : ∃ k', k = k' + 1 := ⟨k - 1, by omega⟩
    have hlt : ((i : Int) < 8) = False := eq_false (by omega)
    rw [loopK_succ]
    simp only [go_sem, hlt]
    obtain rfl : i = 8 := by omega
    exact kf _ hq
  | succ m ih =>
    intro i k σ hi hk hq kf
    obtain ⟨k, rfl⟩ : ∃ k', k = k' + 1 := ⟨k - 1, by omega⟩
    have hlt : ((i : Int) < 8) = True := eq_true (by omega)
    have h0 : ((0 : Int) ≤ i) = True := eq_true (by omega)
    have hg : σ.get row = _ := (hQ.has _ _ _ hq).g1
    have hat := ptrs8_at c i (by omega)
    have hw : IntKind.i64.wrap ((i : Int) + 1) = ((i + 1 : Nat) : Int) := by rw [wrap_small (by omega) (by omega)]; rfl
    have hn : ((i : Int)).toNat = i := by omega
    have hlt2 : ((i : Int) < ((8 : Nat) : Int)) = True := eq_true (by omega)
    rw [loopK_succ]
    simp only [go_sem, hlt, h0, hlt2, hg, hn, Nat.mul_one, Nat.zero_add, hat]
    refine h1 i _ σ _ (by omega) hq ?_
    intro σ' hq'
    simp only [go_sem, hw]
    exact ih (i + 1) k σ' (by omega) (by omega) hq' kf

theorem each_l2 {Q : Nat → Hp → St → Prop} (hQ : Steps Q) {c k2 p2 row : Nat} {fr : Hp}
    (h2 : ∀ (i : Nat) fr σ (K : AV → St → Option Unit), i < 4 → Q (8 + i) fr σ → (∀ σ', Q (8 + i + 1) fr σ' → K (.tuple []) σ' = some ()) → callK Tryz.prog N ann d dem k2 [.int .i64 ((8 + i : Nat) : Int), .ptr (some (c, 8 + i)), .ptr (some (p2, 0))] σ K = some ()) :
    ∀ (m i k : Nat) (σ : St), i + m = 4 → m < k → Q (8 + i) ((row, .cells (ptrs4 c) true) :: fr) σ → (∀ σ', Q 12 ((row, .cells (ptrs4 c) true) :: fr) σ' → J (.exit 2) f29e12 σ' = some ()) →
      loopK (f29L20 (callK Tryz.prog N ann d) dem N) f29a20 k J (f29e10 k2 p2 (some (row, 0)) 4 (some 4) 4 (i : Int)) σ = some () := by
  intro m
  induction m with
  | zero =>
    intro i k σ hi hk hq kf
    obtain ⟨k, rfl⟩ : ∃ k', k = k' + 1 := ⟨k - 1, by omega⟩
    have hlt : ((i : Int) < 4) = False := eq_false (by omega)
    rw [loopK_succ]
    simp only [go_sem, hlt]
    obtain rfl : i = 4 := by omega
    exact kf _ hq
  | succ m ih =>
    intro i k σ hi hk hq kf
    obtain ⟨k, rfl⟩ : ∃ k', k = k' + 1 := ⟨k - 1, by omega⟩
    have hlt : ((i : Int) < 4) = True := eq_true (by omega)
    have h0 : ((0 : Int) ≤ i) = True := eq_true (by omega)
    have hg : σ.get row = _ := (hQ.has _ _ _ hq).g1
    have hat := ptrs4_at c i (by omega)
    have hw : IntKind.i64.wrap ((i : Int) + 1) = ((i + 1 : Nat) : Int) := by rw [wrap_small (by omega) (by omega)]; rfl
    have hw8 : IntKind.i64.wrap (8 + (i : Int)) = ((8 + i : Nat) : Int) := by rw [wrap_small (by omega) (by omega)]; rfl
    have hn : ((i : Int)).toNat = i := by omega
    have hlt2 : ((i : Int) < ((4 : Nat) : Int)) = True := eq_true (by omega)
    rw [loopK_succ]
    simp only [go_sem, hlt, h0, hlt2, hg, hn, Nat.mul_one, Nat.zero_add, hat, hw8]
    refine h2 i _ σ _ (by omega) hq ?_
    intro σ' hq'
    simp only [go_sem, hw]
    exact ih (i + 1) k σ' (by omega) (by omega) hq' kf

/-- A choice's fields are handed on, one behind the other. -/
theorem each_ok {Q : Nat → Hp → St → Prop} (hQ : Steps Q) {c k1 k2 p1 p2 : Nat} {fr : Hp} (hN : 8 < N)
    (h1 : ∀ (i : Nat) fr σ (K : AV → St → Option Unit), i < 8 → Q i fr σ → (∀ σ', Q (i + 1) fr σ' → K (.tuple []) σ' = some ()) → callK Tryz.prog N ann (d + 1) dem k1 [.int .i64 i, .ptr (some (c, i)), .ptr (some (p1, 0))] σ K = some ())
    (h2 : ∀ (i : Nat) fr σ (K : AV → St → Option Unit), i < 4 → Q (8 + i) fr σ → (∀ σ', Q (8 + i + 1) fr σ' → K (.tuple []) σ' = some ()) → callK Tryz.prog N ann (d + 1) dem k2 [.int .i64 ((8 + i : Nat) : Int), .ptr (some (c, 8 + i)), .ptr (some (p2, 0))] σ K = some ())
    (hq : Q 0 fr σ) (kont : ∀ σ', Q 12 fr σ' → K (.tuple []) σ' = some ()) :
    callK Tryz.prog N ann (d + 2) dem 29 [.ptr (some (c, 0)), .func (.func k1) [] [.ptr (some (p1, 0))], .func (.func k2) [] [.ptr (some (p2, 0))]] σ K = some () := by
  rw [go1 29 rfl, f29_eq]
  simp only [go_sem, numbers_eq]
  refine each_l1 hQ h1 8 0 N _ rfl hN (hQ.new _ _ _ _ hq) ?_
  intro σ1 hq1
  simp only [go_sem, texts_eq]
  refine each_l2 hQ h2 4 0 N _ rfl (by omega) (hQ.new _ _ _ _ hq1) ?_
  intro σ2 hq2
  simp only [go_sem]
  exact kont _ (hQ.drop _ _ _ _ (hQ.drop _ _ _ _ hq2))
end Go.Proofs.YtnjhcfcnpapaiaaGreatDoor

set_option linter.unusedVariables false
set_option linter.unusedSimpArgs false
namespace Go.Proofs.YtnjhcfcnpapaiaaGreatDoor
open Go.AM
set_option maxRecDepth 100000
variable {N d : Nat} {dem : Bool} {σ : St} {K : AV → St → Option Unit}

theorem steps_mk {ι : Type} (G : Nat → ι → Prop) (A : Nat → ι → Hp) : Steps (fun i fr σ => ∃ p, G i p ∧ HasH σ (A i p ++ fr)) where
  new := fun i fr σ x ⟨p, h, H⟩ => ⟨p, h, (H.new x).down⟩
  has := fun i fr σ ⟨p, h, H⟩ => H.right
  drop := fun i q fr σ ⟨p, h, H⟩ => ⟨p, h, H.sub ((List.sublist_cons_self _ _).append_left _)⟩

theorem cells_func (f : Fn) (a b : List AV) : AV.cells (.func f a b) = [.func f a b] := hide rfl
theorem one_func (f : Fn) (a b : List AV) : AV.one (.func f a b) = true := hide rfl
attribute [go_sem] cells_func one_func

/-- What there is behind so many fields of a choice. -/
abbrev ChP := Option (Nat × Nat) × Option Nat × Hp
def chG (F : List ByteArray) (i : Nat) (p : ChP) : Prop := Vec 1 (.slice p.1 i p.2.1 1) i ((F.take i).map AV.str) p.2.2
def chA (cells : List AV) (fl : List Bool) (bl bt bc ba : Nat) (g : Hp) (i : Nat) (p : ChP) : Hp :=
  (bl, .cells [.slice p.1 i p.2.1 1] true) :: (bt, .cells [.int .i64 ((lastL 0 (fl.take i) 0 : Nat) : Int)] true) ::
    (p.2.2 ++ ((bc, .cells cells true) :: (ba, .cells [.func (.func 28) [] [.ptr (some (bl, 0)), .ptr (some (bt, 0))]] true) :: g))

theorem last_step {fl : List Bool} {i : Nat} {b : Bool} (hb : fl[i]? = some b) : (if b = true then ((lastL 0 (fl.take i) 0 : Nat) : Int) else (i : Int)) = ((lastL 0 (fl.take (i + 1)) 0 : Nat) : Int) := by
  have hlt : i < fl.length := (List.getElem?_eq_some_iff.1 hb).1
  rw [List.take_add_one, hb]
  simp only [Option.toList_some]
  rw [lastL_snoc]
  split
  · rfl
  · simp; omega
theorem strs_step {F : List ByteArray} {i : Nat} {s : ByteArray} (hs : F[i]? = some s) : (F.take i).map AV.str ++ [.str s] = (F.take (i + 1)).map AV.str := by
  rw [List.take_add_one, hs]; simp

theorem drop_one {α : Type} {l : List α} {i : Nat} {a : α} (h : l[i]? = some a) : List.take 1 (List.drop i l) = [a] := by
  obtain ⟨hlt, he⟩ := List.getElem?_eq_some_iff.1 h
  rw [List.drop_eq_getElem_cons hlt, he]; rfl

/-- One field is added. -/
theorem ch_add {cells : List AV} {fl : List Bool} {F : List ByteArray} {bl bt bc ba : Nat} {g fr : Hp} {i : Nat} {s : ByteArray} {b : Bool} (hs : F[i]? = some s) (hb : fl[i]? = some b) (hi : i ≤ 1000)
    (hq : ∃ p, chG F i p ∧ HasH σ (chA cells fl bl bt bc ba g i p ++ fr)) (kont : ∀ σ', (∃ p, chG F (i + 1) p ∧ HasH σ' (chA cells fl bl bt bc ba g (i + 1) p ++ fr)) → K (.tuple []) σ' = some ()) :
    callK Tryz.prog N ann (d + 1) dem 28 [.int .i64 i, .str s, .bool b, .ptr (some (bl, 0)), .ptr (some (bt, 0))] σ K = some () := by
  obtain ⟨⟨o, c, hv⟩, hV, H⟩ := hq
  unfold chA at H
  simp only [List.cons_append, List.append_assoc] at H
  refine add_ok hV hi H ?_
  intro σ' o' c' hv' hV' H'
  refine kont σ' ⟨⟨o', c', hv'⟩, ?_, ?_⟩
  · unfold chG
    rw [← strs_step hs]
    exact hV'
  · unfold chA
    rw [← last_step hb]
    simpa only [List.cons_append, List.append_assoc] using H'

theorem ch_num {cells : List AV} {fl : List Bool} {F : List ByteArray} {bl bt bc ba : Nat} {g fr : Hp} {i : Nat} {n : Int} (hg : ∀ σ : St, (∀ p ∈ g, σ.get p.1 = some p.2) → goodS σ = true) (hc : cells[i]? = some (.int .i64 n)) (hn : i64 n) (hs : F[i]? = some (itoaB n)) (hb : fl[i]? = some (n == 0)) (hi : i ≤ 1000)
    (hq : ∃ p, chG F i p ∧ HasH σ (chA cells fl bl bt bc ba g i p ++ fr)) (kont : ∀ σ', (∃ p, chG F (i + 1) p ∧ HasH σ' (chA cells fl bl bt bc ba g (i + 1) p ++ fr)) → K (.tuple []) σ' = some ()) :
    callK Tryz.prog N ann (d + 2) dem 30 [.int .i64 i, .ptr (some (bc, i)), .ptr (some (ba, 0))] σ K = some () := by
  have hq2 := hq
  obtain ⟨⟨o, c, hv⟩, hV, H⟩ := hq2
  unfold chA at H
  have hgc : σ.get bc = some (.cells cells true) := H.get (bc, _) (by simp)
  have hga : σ.get ba = some (.cells [.func (.func 28) [] [.ptr (some (bl, 0)), .ptr (some (bt, 0))]] true) := H.get (ba, _) (by simp)
  have hgd : goodS σ = true := hg σ fun p hp => H.get p (by simp [hp])
  rw [go1 30 rfl, f30_eq]
  have hlt : i < cells.length := (List.getElem?_eq_some_iff.1 hc).1
  have hle : (i + 1 ≤ cells.length) = True := eq_true (by omega)
  have hdt := drop_one hc
  simp only [go_sem, hgc, hga, hc, num1 hgd hn, List.nil_append, List.append_nil, List.cons_append, hle, hdt]
  refine ch_add hs hb hi hq ?_
  intro σ' hq'
  simp only [go_sem]
  exact kont σ' hq'
theorem ch_txt {cells : List AV} {fl : List Bool} {F : List ByteArray} {bl bt bc ba : Nat} {g fr : Hp} {i : Nat} {s : ByteArray} (hc : cells[i]? = some (.str s)) (hs : F[i]? = some s) (hb : fl[i]? = some (decide (s = ⟨#[]⟩))) (hi : i ≤ 1000)
    (hq : ∃ p, chG F i p ∧ HasH σ (chA cells fl bl bt bc ba g i p ++ fr)) (kont : ∀ σ', (∃ p, chG F (i + 1) p ∧ HasH σ' (chA cells fl bl bt bc ba g (i + 1) p ++ fr)) → K (.tuple []) σ' = some ()) :
    callK Tryz.prog N ann (d + 2) dem 31 [.int .i64 i, .ptr (some (bc, i)), .ptr (some (ba, 0))] σ K = some () := by
  have hq2 := hq
  obtain ⟨⟨o, c, hv⟩, hV, H⟩ := hq2
  unfold chA at H
  have hgc : σ.get bc = some (.cells cells true) := H.get (bc, _) (by simp)
  have hga : σ.get ba = some (.cells [.func (.func 28) [] [.ptr (some (bl, 0)), .ptr (some (bt, 0))]] true) := H.get (ba, _) (by simp)
  rw [go1 31 rfl, f31_eq]
  simp only [go_sem, hgc, hga, hc, List.nil_append, List.append_nil, List.cons_append]
  refine ch_add hs hb hi hq ?_
  intro σ' hq'
  simp only [go_sem]
  exact kont σ' hq'

theorem pack1 {o : Option (Nat × Nat)} {n : Nat} {c : Option Nat} {l : List ByteArray} (hg : goodS σ = true) (he : σ.elems 1 ⟨o, n, c⟩ n = some (l.map AV.str)) (hs : ∀ s ∈ l, s.size < 1000000000) (hl : (packAll l).length ≤ 1000000000) :
    callK Tryz.prog N ann (d + 1) dem 15 [.slice o n c 1] σ K = K (.str ⟨(packAll l).toArray⟩) σ := by
  refine know1 ?_ N d dem K
  show packG [.slice o n c 1] σ = _
  unfold packG
  have hk : ((l.all fun s => Nat.blt s.size 1000000000) && Nat.ble (packAll l).length 1000000000) = true := by
    rw [Bool.and_eq_true, List.all_eq_true]
    exact ⟨fun s h => Nat.blt_eq.mpr (hs s h), Nat.ble_eq.mpr hl⟩
  simp only [hg, if_true, he, Option.bind_some, strsOf_map, hk]

/-- A choice's text. -/
theorem choice_ok {y0 y1 y2 y3 y4 y5 y6 y7 : Int} {y8 y9 y10 y11 : ByteArray} {g : Hp} (hg : ∀ σ : St, (∀ p ∈ g, σ.get p.1 = some p.2) → goodS σ = true) (hN : 8 < N)
    (hn : ∀ n ∈ [y0, y1, y2, y3, y4, y5, y6, y7], i64 n) (ht : ∀ t ∈ [y8, y9, y10, y11], t.size < 1000000) (H : HasH σ g)
    (kont : ∀ σ', HasH σ' g → K (.str (choiceL [y0, y1, y2, y3, y4, y5, y6, y7] [y8, y9, y10, y11])) σ' = some ()) :
    callK Tryz.prog N ann (d + 5) dem 14 [.agg [.int .i64 y0, .int .i64 y1, .int .i64 y2, .int .i64 y3, .int .i64 y4, .int .i64 y5, .int .i64 y6, .int .i64 y7, .str y8, .str y9, .str y10, .str y11]] σ K = some () := by
  rw [go1 14 rfl, f14_eq]
  simp only [go_sem]
  have H1 := H.new (.cells [.int .i64 y0, .int .i64 y1, .int .i64 y2, .int .i64 y3, .int .i64 y4, .int .i64 y5, .int .i64 y6, .int .i64 y7, .str y8, .str y9, .str y10, .str y11] true)
  have H2 := H1.new (.cells [.slice none 0 (some 0) 1] true)
  have H3 := (H2.new (.cells [.int .i64 0] true)).put (.cells [.int .i64 0] true)
  have H4 := (H3.new (.cells [.nilFunc] true)).put (.cells [.func (.func 28) [] [.ptr (some (σ.next + 1, 0)), .ptr (some (σ.next + 1 + 1, 0))]] true)
  have H5 := H4.rot.swap23.rot
  have H6 := H5.perm (((List.Perm.swap _ _ _).cons _).cons _)
  simp only [St.next_new, St.next_put] at H6
  obtain ⟨ns, hns⟩ : ∃ ns, [y0, y1, y2, y3, y4, y5, y6, y7] = ns := ⟨_, rfl⟩
  obtain ⟨ts, hts⟩ : ∃ ts, [y8, y9, y10, y11] = ts := ⟨_, rfl⟩
  have hln : ns.length = 8 := by rw [← hns]; rfl
  have hlt : ts.length = 4 := by rw [← hts]; rfl
  have hcells : [.int .i64 y0, .int .i64 y1, .int .i64 y2, .int .i64 y3, .int .i64 y4, .int .i64 y5, .int .i64 y6, .int .i64 y7, .str y8, .str y9, .str y10, .str y11] = ns.map (AV.int .i64) ++ ts.map AV.str := by rw [← hns, ← hts]; rfl
  rw [hns] at hn kont
  rw [hts] at ht kont
  rw [hcells] at H6 ⊢
  obtain ⟨cells, hcl⟩ : ∃ cells, ns.map (AV.int .i64) ++ ts.map AV.str = cells := ⟨_, rfl⟩
  rw [hcl] at H6 ⊢
  refine each_ok (Q := fun i fr σ' => ∃ p, chG (fieldsL ns ts) i p ∧ HasH σ' (chA cells (noneL ns ts) (σ.next + 1) (σ.next + 1 + 1) σ.next (σ.next + 1 + 1 + 1) g i p ++ fr)) (fr := []) (steps_mk _ _) hN ?_ ?_ ?_ ?_
  · intro i fr σ K hi hq k
    have hni := List.getElem?_eq_getElem (l := ns) (i := i) (by omega)
    refine ch_num hg (n := ns[i]) ?_ (hn _ (List.getElem_mem _)) ?_ ?_ (by omega) hq k
    · rw [← hcl, List.getElem?_append_left (by simp; omega), List.getElem?_map, hni]; rfl
    · unfold fieldsL; rw [List.getElem?_append_left (by simp; omega), List.getElem?_map, hni]; rfl
    · unfold noneL; rw [List.getElem?_append_left (by simp; omega), List.getElem?_map, hni]; rfl
  · intro i fr σ K hi hq k
    have hti := List.getElem?_eq_getElem (l := ts) (i := i) (by omega)
    refine ch_txt (s := ts[i]) ?_ ?_ ?_ (by omega) hq k
    · rw [← hcl, List.getElem?_append_right (by simp; omega)]; simp [hln, hti]
    · unfold fieldsL; rw [List.getElem?_append_right (by simp; omega)]; simp [hln, hti]
    · unfold noneL; rw [List.getElem?_append_right (by simp; omega)]; simp [hln, hti]
  · exact ⟨(none, some 0, []), Vec.nil 1, by simpa [chA, lastL] using H6⟩
  intro σ' ⟨⟨o, c, hv⟩, hV, H'⟩
  have hln2 : (noneL ns ts).length = 12 := by simp [noneL, hln, hlt]
  have hlf : (fieldsL ns ts).length = 12 := by simp [fieldsL, hln, hlt]
  unfold chA at H'
  rw [List.take_of_length_le (by omega), List.append_nil] at H'
  unfold chG at hV
  rw [List.take_of_length_le (by omega)] at hV
  simp only at hV H'
  obtain ⟨k, hk⟩ : ∃ k, lastL 0 (noneL ns ts) 0 = k := ⟨_, rfl⟩
  have hk11 : k ≤ 11 := by
    have := lastL_le (noneL ns ts) 0 0 (Nat.le_refl _)
    omega
  rw [hk] at H'
  have hgl : σ'.get (σ.next + 1) = _ := H'.g1
  have hgt : σ'.get (σ.next + 1 + 1) = _ := H'.g2
  have hw : IntKind.i64.wrap ((k : Int) + 1) = ((k + 1 : Nat) : Int) := by rw [wrap_small (by omega) (by omega)]; rfl
  have hcap : ((k + 1 : Nat) : Int) ≤ (c.getD 12 : Nat) := by
    rcases hV.2 with ⟨_, h, _⟩ | ⟨b, c', junk, e, _, hc⟩
    · omega
    · injection e with e1 e2 e3 e4
      subst e3
      rcases hc with rfl | ⟨m, rfl, hm⟩
      · simp; omega
      · simp [hlf] at hm ⊢; omega
  have hsub := sub_to (z := 1) (o := o) (n := 12) (c := c) (i := ((k + 1 : Nat) : Int)) (by omega) hcap
  have hnat : (((k + 1 : Nat) : Int)).toNat = k + 1 := by omega
  have Hr := H'.tail.tail
  have Hg := Hr.right.tail.tail
  have hgd : goodS σ' = true := hg σ' fun p hp => Hg.get p hp
  have hel := (Row.ofVec hV).elems Hr (k := k + 1) (by omega)
  rw [← List.map_take] at hel
  have hsm : ∀ t ∈ (fieldsL ns ts).take (k + 1), t.size ≤ 1000000 := by
    intro t h
    rcases List.mem_append.1 (List.mem_of_mem_take h) with h | h
    · obtain ⟨n, q1, rfl⟩ := List.mem_map.1 h
      have := itoaB_size (hn n q1)
      unfold itoaB at this; omega
    · have := ht t h; omega
  have hlen : (packAll ((fieldsL ns ts).take (k + 1))).length ≤ 1000000000 := by
    have := packAll_length_le 1000000 (by omega) _ hsm
    have hl : ((fieldsL ns ts).take (k + 1)).length ≤ 12 := by simp; omega
    have := Nat.mul_le_mul_right (1000000 + 11) hl
    omega
  simp only [go_sem, hgl, hgt, hw, hsub, hnat, pack1 hgd hel (fun t h => by have := hsm t h; omega) hlen]
  unfold choiceL at kont
  rw [hk] at kont
  exact kont σ' Hg
end Go.Proofs.YtnjhcfcnpapaiaaGreatDoor

set_option linter.unusedVariables false
set_option linter.unusedSimpArgs false
namespace Go.Proofs.YtnjhcfcnpapaiaaGreatDoor
open Go.AM
set_option maxRecDepth 100000
variable {N d : Nat} {dem : Bool} {σ : St} {K : AV → St → Option Unit}

theorem unpack1 {s : ByteArray} {g : Hp} (hg : goodS σ = true) (hs : s.size ≤ 1000000000) (H : HasH σ g)
    (kok : ∀ l o c hv σ', unpackL s = some l → Vec 1 (.slice o l.length c 1) l.length (l.map AV.str) hv → HasH σ' (hv ++ g) → K (.tuple [.slice o l.length c 1, .int .i64 0]) σ' = some ())
    (kbad : unpackL s = none → K (.tuple [.slice none 0 (some 0) 1, .int .i64 4]) σ = some ()) : callK Tryz.prog N ann (d + 1) dem 16 [.str s] σ K = some () := by
  have hk : (goodS σ && Nat.ble s.size 1000000000) = true := by rw [hg, Bool.true_and]; exact Nat.ble_eq.mpr hs
  cases hu : unpackL s with
  | none =>
    have h : specOf known1 16 [.str s] σ = some (.tuple [.slice none 0 (some 0) 1, .int .i64 4], σ) := by
      show unpackG [.str s] σ = _
      unfold unpackG
      simp only [hk, if_true, hu]
    rw [know1 h]
    exact kbad hu
  | some l =>
    cases l with
    | nil =>
      have h : specOf known1 16 [.str s] σ = some (.tuple [.slice none 0 (some 0) 1, .int .i64 0], σ) := by
        show unpackG [.str s] σ = _
        unfold unpackG
        simp only [hk, if_true, hu]
      rw [know1 h]
      exact kok [] none (some 0) [] σ hu (Vec.nil 1) H
    | cons a l =>
      have h : specOf known1 16 [.str s] σ = some (.tuple [.slice (some (σ.next, 0)) (l.length + 1) none 1, .int .i64 0], σ.new (.cells ((a :: l).map AV.str) true)) := by
        show unpackG [.str s] σ = _
        unfold unpackG
        simp only [hk, if_true, hu]
      rw [know1 h]
      exact kok (a :: l) _ none [(σ.next, .cells ((a :: l).map AV.str) true)] _ hu ⟨by simp, .inr ⟨_, none, [], rfl, by simp, .inl rfl⟩⟩ (H.new _)
theorem toNum1 {s : ByteArray} (hg : goodS σ = true) (hs : s.size ≤ 1000000000) : callK Tryz.prog N ann (d + 1) dem 35 [.str s] σ K = K (numAV (toNumL s)) σ := by
  refine know1 ?_ N d dem K
  show toNumG [.str s] σ = _
  unfold toNumG
  have hk : (goodS σ && Nat.ble s.size 1000000000) = true := by rw [hg, Bool.true_and]; exact Nat.ble_eq.mpr hs
  simp only [hk, if_true]

theorem numAV_eq (o : Option Int) : numAV o = .tuple [.int .i64 (o.getD 0), .int .i64 (if o.isSome = true then 0 else 4)] := by
  cases o <;> rfl

/-- The choice's cells, field by field. -/
def tgtC (l : List ByteArray) : List AV := (numsAt l 8).map (AV.int .i64) ++ (txtsAt l 8 4).map AV.str
def zerC : List AV := [.int .i64 0, .int .i64 0, .int .i64 0, .int .i64 0, .int .i64 0, .int .i64 0, .int .i64 0, .int .i64 0, .str ⟨#[]⟩, .str ⟨#[]⟩, .str ⟨#[]⟩, .str ⟨#[]⟩]
def parC (l : List ByteArray) (i : Nat) : List AV := (tgtC l).take i ++ zerC.drop i
theorem tgt_len (l : List ByteArray) : (tgtC l).length = 12 := by simp [tgtC, numsAt, txtsAt]
theorem tgt_num {l : List ByteArray} {i : Nat} (h : i < 8) : (tgtC l)[i]? = some (.int .i64 (numAt l i)) := by
  unfold tgtC
  rw [List.getElem?_append_left (by simpa [numsAt] using h)]
  simp [numsAt, h]
theorem tgt_txt {l : List ByteArray} {i : Nat} (h : i < 4) : (tgtC l)[8 + i]? = some (.str (txtAt l (8 + i))) := by
  unfold tgtC
  rw [List.getElem?_append_right (by simp [numsAt])]
  simp [numsAt, txtsAt, h]
theorem par_step {l : List ByteArray} {i : Nat} {v : AV} (h : i < 12) (hv : (tgtC l)[i]? = some v) : St.splice (parC l i) i [v] = parC l (i + 1) := by
  have hl : ((tgtC l).take i).length = i := by simp [tgt_len]; omega
  have := splice_at ((tgtC l).take i) (zerC.drop i) [v]
  rw [hl] at this
  unfold parC
  rw [this, List.take_add_one, hv]
  simp
theorem par_same {l : List ByteArray} {i : Nat} {v : AV} (hv : (tgtC l)[i]? = some v) (hz : zerC[i]? = some v) : parC l i = parC l (i + 1) := by
  have hlt : i < zerC.length := (List.getElem?_eq_some_iff.1 hz).1
  unfold parC
  rw [List.take_add_one, hv, List.drop_eq_getElem_cons hlt]
  have := List.getElem?_eq_getElem hlt
  rw [hz] at this
  injection this with this
  rw [← this]; simp
theorem par_len (l : List ByteArray) (i : Nat) (h : i ≤ 12) : (parC l i).length = 12 := by
  unfold parC; simp [tgt_len, zerC]; omega
theorem zer_num {i : Nat} (h : i < 8) : zerC[i]? = some (.int .i64 0) := by
  match i, h with
  | 0, _ => rfl | 1, _ => rfl | 2, _ => rfl | 3, _ => rfl | 4, _ => rfl | 5, _ => rfl | 6, _ => rfl | 7, _ => rfl
theorem zer_txt {i : Nat} (h : i < 4) : zerC[8 + i]? = some (.str ⟨#[]⟩) := by
  match i, h with
  | 0, _ => rfl | 1, _ => rfl | 2, _ => rfl | 3, _ => rfl

def cnA (l : List ByteArray) (o : Option (Nat × Nat)) (c : Option Nat) (hv : Hp) (bc bl : Nat) (g : Hp) (i : Nat) (_ : Unit) : Hp :=
  (bc, .cells (parC l i) true) :: (bl, .cells [.slice o l.length c 1] true) :: (hv ++ g)

theorem cn_num {l : List ByteArray} {o : Option (Nat × Nat)} {c : Option Nat} {hv : Hp} {bc bl : Nat} {g fr : Hp} {i : Nat} (hg : ∀ σ : St, (∀ p ∈ g, σ.get p.1 = some p.2) → goodS σ = true) (hV : Vec 1 (.slice o l.length c 1) l.length (l.map AV.str) hv)
    (hl : ∀ t ∈ l, t.size ≤ 1000000) (hi : i < 8) (hq : ∃ p : Unit, True ∧ HasH σ (cnA l o c hv bc bl g i p ++ fr)) (kont : ∀ σ', (∃ p : Unit, True ∧ HasH σ' (cnA l o c hv bc bl g (i + 1) p ++ fr)) → K (.tuple []) σ' = some ()) :
    callK Tryz.prog N ann (d + 2) dem 36 [.int .i64 i, .ptr (some (bc, i)), .ptr (some (bl, 0))] σ K = some () := by
  obtain ⟨_, _, H⟩ := hq
  unfold cnA at H
  simp only [List.cons_append] at H
  have hgc : σ.get bc = _ := H.g1
  have hgl : σ.get bl = _ := H.g2
  have hgd : goodS σ = true := hg σ fun p hp => H.get p (by simp [hp])
  rw [go1 36 rfl, f36_eq]
  by_cases hlt : i < l.length
  · have hlt' : ((i : Int) < (l.length : Int)) = True := eq_true (by omega)
    have h0 : ((0 : Int) ≤ i) = True := eq_true (by omega)
    have hti := List.getElem?_eq_getElem hlt
    obtain ⟨b, rfl, hld⟩ := hV.ld (i := i) (x := AV.str l[i]) (r := (bc, .cells (parC l i) true) :: (bl, .cells [.slice o l.length c 1] true) :: (g ++ fr)) (H.perm (by simp only [List.append_assoc]; exact (List.perm_middle.trans ((List.perm_middle).cons _)).symm)) (by rw [List.getElem?_map, hti]; rfl)
    have hnat : ((i : Int)).toNat = i := by omega
    have hsz := hl _ (List.getElem_mem hlt)
    have hplen : (i + 1 ≤ (parC l i).length) = True := eq_true (by rw [par_len l i (by omega)]; omega)
    have hst := par_step (l := l) (i := i) (by omega) (tgt_num hi)
    have hna : numAt l i = (toNumL l[i]).getD 0 := by
      unfold numAt; rw [if_pos hlt, List.getD_eq_getElem?_getD, hti]; rfl
    rw [hna] at hst
    simp only [go_sem, hgl, hlt', h0, hnat, Nat.zero_add, Nat.mul_one, hld, toNum1 hgd (show l[i].size ≤ 1000000000 by omega)]
    simp only [go_sem, numAV_eq, hgc, hplen, hst]
    exact kont _ ⟨(), trivial, H.put _⟩
  · have hlt' : ((i : Int) < (l.length : Int)) = False := eq_false (by omega)
    simp only [go_sem, hgl, hlt']
    refine kont σ ⟨(), trivial, ?_⟩
    unfold cnA
    rw [← par_same (tgt_num hi) (by rw [zer_num hi]; unfold numAt; rw [if_neg hlt])]
    exact H

theorem cn_txt {l : List ByteArray} {o : Option (Nat × Nat)} {c : Option Nat} {hv : Hp} {bc bl : Nat} {g fr : Hp} {i : Nat} (hV : Vec 1 (.slice o l.length c 1) l.length (l.map AV.str) hv)
    (hi : i < 4) (hq : ∃ p : Unit, True ∧ HasH σ (cnA l o c hv bc bl g (8 + i) p ++ fr)) (kont : ∀ σ', (∃ p : Unit, True ∧ HasH σ' (cnA l o c hv bc bl g (8 + i + 1) p ++ fr)) → K (.tuple []) σ' = some ()) :
    callK Tryz.prog N ann (d + 2) dem 37 [.int .i64 ((8 + i : Nat) : Int), .ptr (some (bc, 8 + i)), .ptr (some (bl, 0))] σ K = some () := by
  obtain ⟨_, _, H⟩ := hq
  unfold cnA at H
  simp only [List.cons_append] at H
  have hgc : σ.get bc = _ := H.g1
  have hgl : σ.get bl = _ := H.g2
  rw [go1 37 rfl, f37_eq]
  by_cases hlt : 8 + i < l.length
  · have hlt' : (((8 + i : Nat) : Int) < (l.length : Int)) = True := eq_true (by omega)
    have h0 : ((0 : Int) ≤ ((8 + i : Nat) : Int)) = True := eq_true (by omega)
    have hti := List.getElem?_eq_getElem hlt
    obtain ⟨b, rfl, hld⟩ := hV.ld (i := 8 + i) (x := AV.str l[8 + i]) (r := (bc, .cells (parC l (8 + i)) true) :: (bl, .cells [.slice o l.length c 1] true) :: (g ++ fr)) (H.perm (by simp only [List.append_assoc]; exact (List.perm_middle.trans ((List.perm_middle).cons _)).symm)) (by rw [List.getElem?_map, hti]; rfl)
    have hnat : (((8 + i : Nat) : Int)).toNat = 8 + i := by omega
    have hplen : (8 + i + 1 ≤ (parC l (8 + i)).length) = True := eq_true (by rw [par_len l (8 + i) (by omega)]; omega)
    have hst := par_step (l := l) (i := 8 + i) (by omega) (tgt_txt hi)
    have hna : txtAt l (8 + i) = l[8 + i] := by
      unfold txtAt; rw [if_pos hlt, List.getD_eq_getElem?_getD, hti]; rfl
    rw [hna] at hst
    simp only [go_sem, hgl, hlt', h0, hnat, Nat.zero_add, Nat.mul_one, hld, hgc, hplen, hst]
    exact kont _ ⟨(), trivial, H.put _⟩
  · have hlt' : (((8 + i : Nat) : Int) < (l.length : Int)) = False := eq_false (by omega)
    simp only [go_sem, hgl, hlt']
    refine kont σ ⟨(), trivial, ?_⟩
    unfold cnA
    rw [← par_same (tgt_txt hi) (by rw [zer_txt hi]; unfold txtAt; rw [if_neg hlt])]
    exact H

/-- The choice of a text, and is it one. -/
def cellsC (ns : List Int) (ts : List ByteArray) : List AV := ns.map (AV.int .i64) ++ ts.map AV.str
def zn : List Int := [0, 0, 0, 0, 0, 0, 0, 0]
def zt : List ByteArray := [⟨#[]⟩, ⟨#[]⟩, ⟨#[]⟩, ⟨#[]⟩]
def chosenL (s : ByteArray) : List Int × List ByteArray × Bool :=
  match unpackL s with
  | some l => if l.length ≤ 12 then (numsAt l 8, txtsAt l 8 4, decide (choiceL (numsAt l 8) (txtsAt l 8 4) = s)) else (zn, zt, false)
  | none => (zn, zt, false)

theorem mem_size {l : List ByteArray} {t : ByteArray} (h : t ∈ l) : t.size ≤ (packAll l).length := by
  induction l with
  | nil => cases h
  | cons a l ih =>
    have e : packAll (a :: l) = packOne a ++ packAll l := rfl
    rw [e, List.length_append, packOne_length]
    rcases List.mem_cons.1 h with rfl | h
    · omega
    · have := ih h; omega
theorem unpack_sizes {s : ByteArray} {l : List ByteArray} (h : unpackL s = some l) : ∀ t ∈ l, t.size ≤ s.size := by
  intro t ht
  have := mem_size ht
  rw [(unpack_back h).1]
  rw [mk_size]; exact this
theorem numAt_i64 (l : List ByteArray) (i : Nat) : i64 (numAt l i) := by
  unfold numAt
  split
  · cases h : toNumL (l.getD i ⟨#[]⟩) with
    | none => exact ⟨by simp, by simp⟩
    | some v => exact (toNum_some h).2
  · exact ⟨by simp, by simp⟩

theorem chosen_ok {s : ByteArray} {g : Hp} (hg : ∀ σ : St, (∀ p ∈ g, σ.get p.1 = some p.2) → goodS σ = true) (hN : 8 < N) (hs : s.size < 1000000) (H : HasH σ g)
    (kont : ∀ σ', HasH σ' g → K (.tuple [.agg (cellsC (chosenL s).1 (chosenL s).2.1), .bool (chosenL s).2.2]) σ' = some ()) :
    callK Tryz.prog N ann (d + 7) dem 18 [.str s] σ K = some () := by
  have hgd : goodS σ = true := hg σ fun p hp => H.get p hp
  have hgd1 : ∀ x, goodS (σ.new x) = true := fun x => hg _ fun p hp => (H.new' x).get p hp
  rw [go1 18 rfl, f18_eq]
  simp only [go_sem]
  refine unpack1 (hgd1 _) (by omega) (H.new (.cells zerC true)) ?_ ?_
  · intro l o c hv σ1 hu hV H1
    have n1 : (σ.next = σ1.next) = False := eq_false (by have := H1.up.l1; omega)
    simp only [go_sem]
    by_cases hl : l.length ≤ 12
    · have hl' : ((12 : Int) < (l.length : Int)) = False := eq_false (by omega)
      simp only [go_sem, hl']
      have H2 := (H1.new (.cells [.slice none 0 (some 0) 1] true)).put (.cells [.slice o l.length c 1] true)
      have H3 := H2.new (.cells zerC true)
      simp only [St.next_put, St.next_new] at H3
      refine each_ok (Q := fun i fr σ' => ∃ p : Unit, True ∧ HasH σ' (cnA l o c hv (σ1.next + 1) σ1.next ((σ.next, .cells zerC true) :: g) i p ++ fr)) (fr := []) (steps_mk (fun _ _ => True) _) hN ?_ ?_ ⟨(), trivial, ?_⟩ ?_
      · intro i fr σ K hi hq k
        exact cn_num (fun σ h => hg σ fun p hp => h p (List.mem_cons_of_mem _ hp)) hV (fun t ht => by have := unpack_sizes hu t ht; omega) hi hq k
      · intro i fr σ K hi hq k
        exact cn_txt hV hi hq k
      · rw [List.append_nil]; exact H3
      intro σ2 ⟨_, _, H4⟩
      rw [List.append_nil] at H4
      obtain ⟨ns, hns⟩ : ∃ ns, numsAt l 8 = ns := ⟨_, rfl⟩
      obtain ⟨ts, hts⟩ : ∃ ts, txtsAt l 8 4 = ts := ⟨_, rfl⟩
      have hch : chosenL s = (ns, ts, decide (choiceL ns ts = s)) := by
        unfold chosenL
        simp only [hu, if_pos hl, hns, hts]
      rw [hch] at kont
      have hn : ∀ n ∈ ns, i64 n := by
        rw [← hns]
        intro n h
        obtain ⟨i, _, rfl⟩ := List.mem_map.1 h
        exact numAt_i64 l i
      have ht : ∀ t ∈ ts, t.size < 1000000 := by
        rw [← hts]
        intro t h
        obtain ⟨i, _, rfl⟩ := List.mem_map.1 h
        unfold txtAt
        split
        · rename_i hi
          have := unpack_sizes hu _ (List.getElem_mem hi)
          rw [List.getD_eq_getElem?_getD, List.getElem?_eq_getElem hi]
          simp only [Option.getD_some]
          omega
        · show (0 : Nat) < _; omega
      have htg : parC l 12 = cellsC ns ts := by
        unfold parC cellsC
        rw [List.take_of_length_le (by rw [tgt_len]; omega), List.drop_eq_nil_of_le (by decide), List.append_nil]
        unfold tgtC
        rw [hns, hts]
      unfold cnA at H4
      rw [htg] at H4
      obtain ⟨y0, y1, y2, y3, y4, y5, y6, y7, rfl⟩ : ∃ y0 y1 y2 y3 y4 y5 y6 y7, ns = [y0, y1, y2, y3, y4, y5, y6, y7] := ⟨_, _, _, _, _, _, _, _, hns.symm⟩
      obtain ⟨y8, y9, y10, y11, rfl⟩ : ∃ y8 y9 y10 y11, ts = [y8, y9, y10, y11] := ⟨_, _, _, _, hts.symm⟩
      clear hns hts
      simp only [cellsC, List.map_cons, List.map_nil, List.cons_append, List.nil_append] at H4 kont
      have hgc : σ2.get (σ1.next + 1) = _ := H4.g1
      simp only [go_sem, hgc]
      refine choice_ok (fun σ h => hg σ fun p hp => h p (by simp [hp])) hN hn ht H4 ?_
      intro σ3 H5
      have hgc3 : σ3.get (σ1.next + 1) = _ := H5.g1
      have hgr3 : σ3.get σ.next = some (.cells zerC true) := H5.get (σ.next, _) (by simp)
      simp only [zerC] at hgr3
      have H6 : HasH σ3 ((σ.next, .cells zerC true) :: g) := H5.tail.tail.right
      simp only [go_sem, hgc3, hgr3]
      exact kont _ (H6.put _).tail
    · have hl' : ((12 : Int) < (l.length : Int)) = True := eq_true (by omega)
      have hch : chosenL s = (zn, zt, false) := by
        unfold chosenL
        simp only [hu, if_neg hl]
      rw [hch] at kont
      simp only [cellsC, zn, zt, List.map_cons, List.map_nil, List.cons_append, List.nil_append] at kont
      have hgr1 : σ1.get σ.next = some (.cells zerC true) := H1.up.g1
      simp only [zerC] at hgr1
      simp only [go_sem, hl', hgr1, n1]
      refine kont _ ?_
      exact (((H1.new (.cells [.slice none 0 (some 0) 1] true)).put (.cells [.slice o l.length c 1] true)).tail.up.put _).tail.right
  · intro hu
    have n1 : (σ.next = σ.next + 1) = False := eq_false (by omega)
    have hch : chosenL s = (zn, zt, false) := by
      unfold chosenL
      simp only [hu]
    rw [hch] at kont
    simp only [cellsC, zn, zt, List.map_cons, List.map_nil, List.cons_append, List.nil_append] at kont
    simp only [go_sem, n1]
    refine kont _ ?_
    exact (((H.new (.cells zerC true)).new (.cells [.slice none 0 (some 0) 1] true)).put (.cells [.slice none 0 (some 0) 1] true)).tail.put _ |>.tail
end Go.Proofs.YtnjhcfcnpapaiaaGreatDoor

set_option linter.unusedVariables false
set_option linter.unusedSimpArgs false
namespace Go.Proofs.YtnjhcfcnpapaiaaGreatDoor
open Go.AM
set_option maxRecDepth 100000
variable {N d : Nat} {dem : Bool} {σ : St} {K : AV → St → Option Unit} {J : KF Unit}

def wrongB (no : Nat) (seed : ByteArray) : Bool := if 16 < no then true else decide ((32 : Int) < (seed.size : Int))
theorem wrong_ok {f g c : Int} {seed : ByteArray} {oo ol : Option (Nat × Nat)} {no nl : Nat} {co cl : Option Nat} {r : Hp} (H : HasH σ r)
    (kont : ∀ σ', HasH σ' r → K (.bool (wrongB no seed)) σ' = some ()) :
    callK Tryz.prog N ann (d + 1) dem 12 [.agg [.int .i64 f, .int .i64 g, .int .i64 c, .str seed, .slice oo no co 1, .slice ol nl cl 12]] σ K = some () := by
  rw [go1 12 rfl, f12_eq]
  by_cases h : 16 < no
  · have h' : ((16 : Int) < (no : Int)) = True := eq_true (by omega)
    simp only [go_sem, h', decide_true]
    unfold wrongB at kont
    rw [if_pos h] at kont
    exact kont _ (H.new' _)
  · have h' : ((16 : Int) < (no : Int)) = False := eq_false (by omega)
    simp only [go_sem, h', decide_false]
    unfold wrongB at kont
    rw [if_neg h] at kont
    exact kont _ (H.new' _)

theorem head_l {odd : List Int} {base : List ByteArray} {oo : Option (Nat × Nat)} {co : Option Nat} {ho g : Hp} (hg : ∀ σ : St, (∀ p ∈ g, σ.get p.1 = some p.2) → goodS σ = true)
    (hR : Row 1 (.slice oo odd.length co 1) odd.length (odd.map (AV.int .i64)) ho) (hodd : ∀ n ∈ odd, i64 n) (hlen : odd.length ≤ 100000) :
    ∀ (m i k : Nat) (σ : St) (o : Option (Nat × Nat)) (c : Option Nat) (hv : Hp), i + m = odd.length → m < k → base.length = 4 →
      Vec 1 (.slice o (4 + i) c 1) (4 + i) ((base ++ (odd.take i).map itoaB).map AV.str) hv → HasH σ (hv ++ (ho ++ g)) →
      (∀ σ' o' c' hv', Vec 1 (.slice o' (4 + odd.length) c' 1) (4 + odd.length) ((base ++ odd.map itoaB).map AV.str) hv' → HasH σ' (hv' ++ (ho ++ g)) → J (.exit 0) (f13e8 o' (4 + odd.length) c') σ' = some ()) →
      loopK (f13L9 (callK Tryz.prog N ann (d + 1)) dem N) f13a9 k J (f13e6 o (4 + i) c oo odd.length co odd.length (i : Int)) σ = some () := by
  intro m
  induction m with
  | zero =>
    intro i k σ o c hv hi hk hb hV H kf
    obtain ⟨k, rfl⟩ : ∃ k', k = k' + 1 := ⟨k - 1, by omega⟩
    have hlt : ((i : Int) < (odd.length : Int)) = False := eq_false (by omega)
    rw [loopK_succ]
    simp only [go_sem, hlt]
    obtain rfl : i = odd.length := by omega
    rw [List.take_length] at hV
    exact kf _ _ _ _ hV H
  | succ m ih =>
    intro i k σ o c hv hi hk hb hV H kf
    obtain ⟨k, rfl⟩ : ∃ k', k = k' + 1 := ⟨k - 1, by omega⟩
    have hlt : ((i : Int) < (odd.length : Int)) = True := eq_true (by omega)
    have h0 : ((0 : Int) ≤ i) = True := eq_true (by omega)
    have hni := List.getElem?_eq_getElem (l := odd) (i := i) (by omega)
    obtain ⟨b, rfl, hld⟩ := hR.ld (i := i) (x := AV.int .i64 odd[i]) (r := hv ++ g) H.mid (by rw [List.getElem?_map, hni]; rfl)
    have hnat : ((i : Int)).toNat = i := by omega
    have hw : IntKind.i64.wrap ((i : Int) + 1) = ((i + 1 : Nat) : Int) := by rw [wrap_small (by omega) (by omega)]; rfl
    have hgd : goodS σ = true := hg σ fun p hp => H.get p (by simp [hp])
    obtain ⟨o', c', σ', h', happ, hv', H'⟩ := hV.app (bytes := 16) (k := 1) (news := [AV.str (itoaB odd[i])]) (H.new' (.cells [.str (itoaB odd[i])] true)) (by decide) (by decide) rfl (by omega)
    rw [loopK_succ]
    simp only [go_sem, hlt, h0, hnat, Nat.zero_add, Nat.mul_one, hld, num1 hgd (hodd _ (List.getElem_mem _)), elems_pos (show 1 ≠ 0 by decide), happ, hw]
    refine ih (i + 1) k σ' o' c' h' (by omega) (by omega) hb ?_ H' kf
    have e : (base ++ (odd.take (i + 1)).map itoaB).map AV.str = (base ++ (odd.take i).map itoaB).map AV.str ++ [AV.str (itoaB odd[i])] := by
      rw [List.take_add_one, hni]
      simp only [Option.toList_some, List.map_append, List.map_cons, List.map_nil, List.append_assoc]
    rw [e]
    exact hv'

/-- A head's text. -/
theorem head_ok {f g0 c0 : Int} {seed : ByteArray} {odd : List Int} {oo ol : Option (Nat × Nat)} {nl : Nat} {co cl : Option Nat} {ho g : Hp} (hg : ∀ σ : St, (∀ p ∈ g, σ.get p.1 = some p.2) → goodS σ = true)
    (hR : Row 1 (.slice oo odd.length co 1) odd.length (odd.map (AV.int .i64)) ho) (hodd : ∀ n ∈ odd, i64 n) (hlen : odd.length ≤ 100000) (hN : 100000 < N) (hf : i64 f) (hg0 : i64 g0) (hc0 : i64 c0) (hseed : seed.size < 1000000)
    (H : HasH σ (ho ++ g)) (kont : ∀ σ', HasH σ' (ho ++ g) → K (.str (headT f g0 c0 seed odd)) σ' = some ()) :
    callK Tryz.prog N ann (d + 2) dem 13 [.agg [.int .i64 f, .int .i64 g0, .int .i64 c0, .str seed, .slice oo odd.length co 1, .slice ol nl cl 12]] σ K = some () := by
  have hgd : ∀ σ' r, HasH σ' (r ++ (ho ++ g)) → goodS σ' = true := fun σ' r h => hg σ' fun p hp => h.get p (by simp [hp])
  have H1 := H.new (.cells [.int .i64 f, .int .i64 g0, .int .i64 c0, .str seed, .slice oo odd.length co 1, .slice ol nl cl 12] true)
  have n1 : (σ.next = σ.next + 1) = False := eq_false (by omega)
  have hgd1 := hgd _ [_] H1
  rw [go1 13 rfl, f13_eq]
  simp only [go_sem, num1 hgd1 hf, num1 hgd1 hg0, num1 hgd1 hc0, n1]
  have H2 := (H1.new (.cells [.str (itoaB f), .str (itoaB g0), .str (itoaB c0), .str seed] true)).drop2
  refine head_l hg hR hodd hlen odd.length 0 N _ _ _ [(σ.next + 1, .cells [.str (itoaB f), .str (itoaB g0), .str (itoaB c0), .str seed] true)] (by omega) (by omega) (base := [itoaB f, itoaB g0, itoaB c0, seed]) rfl ?_ ?_ ?_
  · exact ⟨by simp, .inr ⟨_, some 4, [], rfl, by simp, .inr ⟨4, rfl, by simp⟩⟩⟩
  · simpa using H2
  intro σ' o' c' hv' hV H'
  have hgd' := hgd _ _ H'
  have hel := (Row.ofVec hV).elems H' (k := 4 + odd.length) (Nat.le_refl _)
  rw [List.take_of_length_le (by simp; omega)] at hel
  have hsm : ∀ t ∈ ([itoaB f, itoaB g0, itoaB c0, seed] ++ odd.map itoaB), t.size ≤ 1000000 := by
    intro t h
    rcases List.mem_append.1 h with h | h
    · simp only [List.mem_cons, List.not_mem_nil, or_false] at h
      rcases h with rfl | rfl | rfl | rfl
      · have := itoaB_size hf; omega
      · have := itoaB_size hg0; omega
      · have := itoaB_size hc0; omega
      · omega
    · obtain ⟨n, q1, rfl⟩ := List.mem_map.1 h
      have := itoaB_size (hodd n q1); omega
  have hpl : (packAll ([itoaB f, itoaB g0, itoaB c0, seed] ++ odd.map itoaB)).length ≤ 1000000000 := by
    have e : packAll ([itoaB f, itoaB g0, itoaB c0, seed] ++ odd.map itoaB) = packAll [itoaB f, itoaB g0, itoaB c0, seed] ++ packAll (odd.map itoaB) := by unfold packAll; rw [List.flatMap_append]
    have h1 := packAll_length_le 1000000 (by omega) [itoaB f, itoaB g0, itoaB c0, seed] (fun t h => hsm t (List.mem_append_left _ h))
    have h2 := packAll_length_le 20 (by omega) (odd.map itoaB) (fun t h => by
      obtain ⟨n, q1, rfl⟩ := List.mem_map.1 h
      exact itoaB_size (hodd n q1))
    rw [e, List.length_append]
    simp at h1 h2 ⊢
    omega
  simp only [go_sem, pack1 hgd' hel (fun t h => by have := hsm t h; omega) hpl]
  exact kont _ H'.right
end Go.Proofs.YtnjhcfcnpapaiaaGreatDoor

set_option linter.unusedVariables false
set_option linter.unusedSimpArgs false
namespace Go.Proofs.YtnjhcfcnpapaiaaGreatDoor
open Go.AM
set_option maxRecDepth 100000
variable {N d : Nat} {dem : Bool} {σ : St} {K : AV → St → Option Unit} {J : KF Unit}

/-- A choice's cells. -/
def chsC (c : Chs) : List AV := ((c.ns.map (AV.int .i64) ++ c.ts.map AV.str) ++ zerC).take 12
theorem chsC_len (c : Chs) : (chsC c).length = 12 := by
  simp [chsC, zerC]
  omega
theorem list8 {α : Type} : ∀ {l : List α}, l.length = 8 → ∃ a b c d e f g h, l = [a, b, c, d, e, f, g, h]
  | [a, b, c, d, e, f, g, h], _ => ⟨a, b, c, d, e, f, g, h, rfl⟩
theorem list4 {α : Type} : ∀ {l : List α}, l.length = 4 → ∃ a b c d, l = [a, b, c, d]
  | [a, b, c, d], _ => ⟨a, b, c, d, rfl⟩
theorem Row_ldb {z : Nat} {b n : Nat} {c : Option Nat} {xs : List AV} {h r : Hp} {σ : St} (hv : Row z (.slice (some (b, 0)) n c z) n xs h) (H : HasH σ (h ++ r)) {i : Nat} {x : AV} (hi : xs[i]? = some x) : σ.ld b i = some x := by
  obtain ⟨b', e, h⟩ := hv.ld H hi
  injection e with e; injection e with e1 _
  rw [e1]; exact h

/-- A choice's cells in a row of choices. -/
theorem chs_at {l : List Chs} {b : Nat} {cl : Option Nat} {h r : Hp} (hR : Row 12 (.slice (some (b, 0)) l.length cl 12) l.length (l.flatMap chsC) h) (H : HasH σ (h ++ r)) {i : Nat} {c : Chs} (hc : l[i]? = some c) {j : Nat} (hj : j < 12) {v : AV} (hv : (chsC c)[j]? = some v) :
    σ.ld b (i * 12 + j) = some v := by
  refine Row_ldb hR H ?_
  have := flatMap_get (f := chsC) (z := 12) chsC_len hj hc []
  rw [List.append_nil] at this
  rw [this]; exact hv

theorem format_l {l : List Chs} {hd : ByteArray} {ol : Option (Nat × Nat)} {cl : Option Nat} {ho hl g : Hp} (hg : ∀ σ : St, (∀ p ∈ g, σ.get p.1 = some p.2) → goodS σ = true)
    (hR : Row 12 (.slice ol l.length cl 12) l.length (l.flatMap chsC) hl) (hok : ∀ c ∈ l, c.ok) (hlen : l.length ≤ 1000) (hN : 8 < N) :
    ∀ (m i k : Nat) (σ : St) (o : Option (Nat × Nat)) (c : Option Nat) (hv : Hp), i + m = l.length → m < k →
      Vec 1 (.slice o (1 + i) c 1) (1 + i) ((hd :: (l.take i).map Chs.text).map AV.str) hv → HasH σ (hv ++ (ho ++ (hl ++ g))) →
      (∀ σ' o' c' hv', Vec 1 (.slice o' (1 + l.length) c' 1) (1 + l.length) ((hd :: l.map Chs.text).map AV.str) hv' → HasH σ' (hv' ++ (ho ++ (hl ++ g))) → J (.exit 0) (f7e13 o' (1 + l.length) c') σ' = some ()) →
      loopK (f7L17 (callK Tryz.prog N ann (d + 5)) dem N) f7a17 k J (f7e11 o (1 + i) c ol l.length cl l.length (i : Int)) σ = some () := by
  intro m
  induction m with
  | zero =>
    intro i k σ o c hv hi hk hV H kf
    obtain ⟨k, rfl⟩ : ∃ k', k = k' + 1 := ⟨k - 1, by omega⟩
    have hlt : ((i : Int) < (l.length : Int)) = False := eq_false (by omega)
    rw [loopK_succ]
    simp only [go_sem, hlt]
    obtain rfl : i = l.length := by omega
    rw [List.take_length] at hV
    exact kf _ _ _ _ hV H
  | succ m ih =>
    intro i k σ o c hv hi hk hV H kf
    obtain ⟨k, rfl⟩ : ∃ k', k = k' + 1 := ⟨k - 1, by omega⟩
    have hlt : ((i : Int) < (l.length : Int)) = True := eq_true (by omega)
    have h0 : ((0 : Int) ≤ i) = True := eq_true (by omega)
    have hni := List.getElem?_eq_getElem (l := l) (i := i) (by omega)
    obtain ⟨x, hx⟩ : ∃ x, l[i]'(by omega) = x := ⟨_, rfl⟩
    rw [hx] at hni
    have hxok : x.ok := hok x (by rw [← hx]; exact List.getElem_mem _)
    obtain ⟨hn, ht, hl8, hl4⟩ := hxok
    obtain ⟨ns, ts⟩ := x
    simp only at hn ht hl8 hl4
    obtain ⟨y0, y1, y2, y3, y4, y5, y6, y7, rfl⟩ := list8 hl8
    obtain ⟨y8, y9, y10, y11, rfl⟩ := list4 hl4
    obtain ⟨b, rfl⟩ : ∃ b, ol = some (b, 0) := by
      obtain ⟨b, e, _⟩ := hR.ld (i := i * 12 + 0) (x := .int .i64 y0) (r := hv ++ (ho ++ g)) (H.perm (by
        have : (hv ++ (ho ++ (hl ++ g))).Perm (hl ++ (hv ++ (ho ++ g))) := ((List.Perm.append_left hv HasH.pc).trans HasH.pc)
        exact this)) (by
        have := flatMap_get (f := chsC) (z := 12) chsC_len (show 0 < 12 by decide) hni []
        rw [List.append_nil] at this
        rw [this]; rfl)
      exact ⟨b, e⟩
    have Hl : HasH σ (hl ++ (hv ++ (ho ++ g))) := H.mid3
    have q0 : σ.ld b (i * 12) = some (.int .i64 y0) := chs_at hR Hl hni (j := 0) (by decide) rfl
    have q1 := chs_at hR Hl hni (j := 1) (v := .int .i64 y1) (by decide) rfl
    have q2 := chs_at hR Hl hni (j := 2) (v := .int .i64 y2) (by decide) rfl
    have q3 := chs_at hR Hl hni (j := 3) (v := .int .i64 y3) (by decide) rfl
    have q4 := chs_at hR Hl hni (j := 4) (v := .int .i64 y4) (by decide) rfl
    have q5 := chs_at hR Hl hni (j := 5) (v := .int .i64 y5) (by decide) rfl
    have q6 := chs_at hR Hl hni (j := 6) (v := .int .i64 y6) (by decide) rfl
    have q7 := chs_at hR Hl hni (j := 7) (v := .int .i64 y7) (by decide) rfl
    have q8 := chs_at hR Hl hni (j := 8) (v := .str y8) (by decide) rfl
    have q9 := chs_at hR Hl hni (j := 9) (v := .str y9) (by decide) rfl
    have q10 := chs_at hR Hl hni (j := 10) (v := .str y10) (by decide) rfl
    have q11 := chs_at hR Hl hni (j := 11) (v := .str y11) (by decide) rfl
    have hnat : ((i : Int)).toNat = i := by omega
    have hw : IntKind.i64.wrap ((i : Int) + 1) = ((i + 1 : Nat) : Int) := by rw [wrap_small (by omega) (by omega)]; rfl
    rw [loopK_succ]
    simp only [go_sem, hlt, h0, hnat, Nat.zero_add, q0, q1, q2, q3, q4, q5, q6, q7, q8, q9, q10, q11]
    have H1 := (H.new (.cells zerC true)).put (.cells [.int .i64 y0, .int .i64 y1, .int .i64 y2, .int .i64 y3, .int .i64 y4, .int .i64 y5, .int .i64 y6, .int .i64 y7, .str y8, .str y9, .str y10, .str y11] true)
    simp only [zerC] at H1
    refine choice_ok (fun σ h => hg σ fun p hp => h p (by simp [hp])) hN hn (fun t h => by have := ht t h; omega) H1 ?_
    intro σ2 H2
    obtain ⟨o', c', σ', h', happ, hv', H'⟩ := hV.app (bytes := 16) (k := 1) (news := [AV.str (Chs.text ⟨[y0, y1, y2, y3, y4, y5, y6, y7], [y8, y9, y10, y11]⟩)]) (H2.tail.new' (.cells [.str (Chs.text ⟨[y0, y1, y2, y3, y4, y5, y6, y7], [y8, y9, y10, y11]⟩)] true)) (by decide) (by decide) rfl (by omega)
    simp only [Chs.text] at happ
    simp only [go_sem, elems_pos (show 1 ≠ 0 by decide), happ, hw]
    refine ih (i + 1) k σ' o' c' h' (by omega) (by omega) ?_ H' kf
    have e : (hd :: (l.take (i + 1)).map Chs.text).map AV.str = (hd :: (l.take i).map Chs.text).map AV.str ++ [AV.str (Chs.text ⟨[y0, y1, y2, y3, y4, y5, y6, y7], [y8, y9, y10, y11]⟩)] := by
      rw [List.take_add_one, hni]
      simp only [Option.toList_some, List.map_append, List.map_cons, List.map_nil, List.cons_append]
    rw [e]
    exact hv'

def formatB (s : Scr) : Bool := if 300 < s.l.length then true else wrongB s.odd.length s.seed
def formatT (s : Scr) : ByteArray := if formatB s = true then ⟨#[]⟩ else formatL s
def formatE (s : Scr) : Int := if formatB s = true then 2 else 0

/-- A script's text, or why it has none. -/
theorem format_ok {s : Scr} {oo ol : Option (Nat × Nat)} {co cl : Option Nat} {ho hl g : Hp} (hg : ∀ σ : St, (∀ p ∈ g, σ.get p.1 = some p.2) → goodS σ = true)
    (hRo : Row 1 (.slice oo s.odd.length co 1) s.odd.length (s.odd.map (AV.int .i64)) ho) (hRl : Row 12 (.slice ol s.l.length cl 12) s.l.length (s.l.flatMap chsC) hl)
    (hodd : ∀ n ∈ s.odd, i64 n) (hok : ∀ c ∈ s.l, c.ok) (hN : 100000 < N) (hf : i64 s.f) (hg0 : i64 s.g) (hc0 : i64 s.c)
    (H : HasH σ (ho ++ (hl ++ g))) (kont : ∀ σ', HasH σ' (ho ++ (hl ++ g)) → K (.tuple [.str (formatT s), .int .i64 (formatE s)]) σ' = some ()) :
    callK Tryz.prog N ann (d + 6) dem 7 [.agg [.int .i64 s.f, .int .i64 s.g, .int .i64 s.c, .str s.seed, .slice oo s.odd.length co 1, .slice ol s.l.length cl 12]] σ K = some () := by
  have H1 := H.new (.cells [.int .i64 s.f, .int .i64 s.g, .int .i64 s.c, .str s.seed, .slice oo s.odd.length co 1, .slice ol s.l.length cl 12] true)
  rw [go1 7 rfl, f7_eq]
  by_cases h3 : 300 < s.l.length
  · have h3' : ((300 : Int) < (s.l.length : Int)) = True := eq_true (by omega)
    have hb : formatB s = true := by unfold formatB; rw [if_pos h3]
    unfold formatT formatE at kont
    rw [if_pos hb, if_pos hb] at kont
    simp only [go_sem, h3', decide_true]
    exact kont _ H1.tail
  · have h3' : ((300 : Int) < (s.l.length : Int)) = False := eq_false (by omega)
    simp only [go_sem, h3', decide_false]
    refine wrong_ok H1 ?_
    intro σ1 H2
    have hfb : formatB s = wrongB s.odd.length s.seed := by unfold formatB; rw [if_neg h3]
    unfold formatT formatE at kont
    rw [hfb] at kont
    cases hw : wrongB s.odd.length s.seed with
    | true =>
      rw [hw] at kont
      simp only [go_sem]
      simp only [if_true] at kont
      exact kont _ H2.tail
    | false =>
      rw [hw] at kont
      simp only [Bool.false_eq_true, if_false] at kont
      have hg2 := H2.g1
      simp only [go_sem, hg2]
      have hol : s.odd.length ≤ 100000 ∧ s.seed.size < 1000000 := by
        unfold wrongB at hw
        split at hw
        · cases hw
        · have := of_decide_eq_false hw
          omega
      obtain ⟨hol, hseed⟩ := hol
      refine head_ok (g := (σ.next, .cells [.int .i64 s.f, .int .i64 s.g, .int .i64 s.c, .str s.seed, .slice oo s.odd.length co 1, .slice ol s.l.length cl 12] true) :: (hl ++ g)) (fun σ h => hg σ fun p hp => h p (by simp [hp])) hRo hodd hol hN hf hg0 hc0 hseed (H2.down) ?_
      intro σ2 H3
      have H4 := H3.up
      have hg4 := H4.g1
      have n2 : (σ.next = σ2.next) = False := eq_false (by have := H4.l1; omega)
      simp only [go_sem, hg4, n2]
      refine format_l (ho := ho) hg hRl hok (by omega) (by omega) s.l.length 0 N _ _ _ [(σ2.next, .cells [.str (headT s.f s.g s.c s.seed s.odd)] true)] (by omega) (by omega) (hd := headT s.f s.g s.c s.seed s.odd) ?_ ?_ ?_
      · exact ⟨by simp, .inr ⟨_, some 1, [], rfl, by simp, .inr ⟨1, rfl, by simp⟩⟩⟩
      · exact (H4.new (.cells [.str (headT s.f s.g s.c s.seed s.odd)] true)).drop2
      intro σ3 o' c' hv' hV H5
      have hgd : goodS σ3 = true := hg σ3 fun p hp => H5.get p (by simp [hp])
      have hel := (Row.ofVec hV).elems H5 (k := 1 + s.l.length) (Nat.le_refl _)
      rw [List.take_of_length_le (by simp; omega)] at hel
      have hh : (headT s.f s.g s.c s.seed s.odd).size < 100000 := by
        have hw2 := hw
        unfold wrongB at hw2
        split at hw2
        · cases hw2
        · have hk : s.ok := ⟨hf, hg0, hc0, by have := of_decide_eq_false hw2; omega, hodd, by omega, hok⟩
          exact (head_back hk).2
      have hsm : ∀ t ∈ (headT s.f s.g s.c s.seed s.odd :: s.l.map Chs.text), t.size ≤ 1000000 := by
        intro t h
        rcases List.mem_cons.1 h with rfl | h
        · omega
        · obtain ⟨x, q1, rfl⟩ := List.mem_map.1 h
          have := Chs.text_size (hok x q1); omega
      have hpl : (packAll (headT s.f s.g s.c s.seed s.odd :: s.l.map Chs.text)).length ≤ 1000000000 := by
        have h1 := packAll_length_le 1000000 (by omega) _ hsm
        have hl : (headT s.f s.g s.c s.seed s.odd :: s.l.map Chs.text).length ≤ 301 := by simp; omega
        have := Nat.mul_le_mul_right (1000000 + 11) hl
        omega
      simp only [go_sem, pack1 hgd hel (fun t h => by have := hsm t h; omega) hpl]
      exact kont _ H5.right
end Go.Proofs.YtnjhcfcnpapaiaaGreatDoor

set_option linter.unusedVariables false
set_option linter.unusedSimpArgs false
namespace Go.Proofs.YtnjhcfcnpapaiaaGreatDoor
open Go.AM
set_option maxRecDepth 100000
variable {N d : Nat} {dem : Bool} {σ : St} {K : AV → St → Option Unit} {J : KF Unit}

theorem unpack2 {s : ByteArray} {g : Hp} (hg : goodS σ = true) (hs : s.size ≤ 1000000000) (H : HasH σ g)
    (kok : ∀ a l b σ', unpackL s = some (a :: l) → HasH σ' ((b, .cells (.str a :: l.map AV.str) true) :: g) → K (.tuple [.slice (some (b, 0)) (l.length + 1) none 1, .int .i64 0]) σ' = some ())
    (knil : unpackL s = some [] → K (.tuple [.slice none 0 (some 0) 1, .int .i64 0]) σ = some ())
    (kbad : unpackL s = none → K (.tuple [.slice none 0 (some 0) 1, .int .i64 4]) σ = some ()) : callK Tryz.prog N ann (d + 1) dem 16 [.str s] σ K = some () := by
  have hk : (goodS σ && Nat.ble s.size 1000000000) = true := by rw [hg, Bool.true_and]; exact Nat.ble_eq.mpr hs
  cases hu : unpackL s with
  | none =>
    have h : specOf known1 16 [.str s] σ = some (.tuple [.slice none 0 (some 0) 1, .int .i64 4], σ) := by
      show unpackG [.str s] σ = _
      unfold unpackG
      simp only [hk, if_true, hu]
    rw [know1 h]
    exact kbad hu
  | some l =>
    cases l with
    | nil =>
      have h : specOf known1 16 [.str s] σ = some (.tuple [.slice none 0 (some 0) 1, .int .i64 0], σ) := by
        show unpackG [.str s] σ = _
        unfold unpackG
        simp only [hk, if_true, hu]
      rw [know1 h]
      exact knil hu
    | cons a l =>
      have h : specOf known1 16 [.str s] σ = some (.tuple [.slice (some (σ.next, 0)) (l.length + 1) none 1, .int .i64 0], σ.new (.cells ((a :: l).map AV.str) true)) := by
        show unpackG [.str s] σ = _
        unfold unpackG
        simp only [hk, if_true, hu]
      rw [know1 h]
      exact kok a l _ _ hu (H.new _)

theorem numOf_i64 (t : ByteArray) : i64 (numOf t) := by
  unfold numOf
  cases h : toNumL t with
  | none => exact ⟨by simp, by simp⟩
  | some v => exact (toNum_some h).2

/-- A head: its numbers, its seed, and is it one. -/
structure Hd where
  f : Int
  g : Int
  c : Int
  seed : ByteArray
  odd : List Int
  ok : Bool
def headedL (s : ByteArray) : Hd :=
  match unpackL s with
  | some (t0 :: t1 :: t2 :: t3 :: rest) => ⟨numOf t0, numOf t1, numOf t2, t3, rest.map numOf, if headT (numOf t0) (numOf t1) (numOf t2) t3 (rest.map numOf) = s then !wrongB rest.length t3 else false⟩
  | _ => ⟨0, 0, 0, ⟨#[]⟩, [], false⟩

theorem headed_l {rest : List ByteArray} {pre : List AV} {s : ByteArray} {br bs b : Nat} {f g0 c0 : Int} {seed : ByteArray} {g : Hp} (hg : ∀ σ : St, (∀ p ∈ g, σ.get p.1 = some p.2) → goodS σ = true)
    (hpre : pre.length = 4) (hsz : ∀ t ∈ rest, t.size ≤ 1000000) (hlen : rest.length ≤ 100000) :
    ∀ (m i k : Nat) (σ : St) (o : Option (Nat × Nat)) (c : Option Nat) (ho : Hp), i + m = rest.length → m < k →
      Vec 1 (.slice o i c 1) i (((rest.take i).map numOf).map (AV.int .i64)) ho →
      HasH σ ((bs, .cells [.int .i64 f, .int .i64 g0, .int .i64 c0, .str seed, .slice o i c 1, .slice none 0 (some 0) 12] true) :: (b, .cells (pre ++ rest.map AV.str) true) :: (ho ++ g)) →
      (∀ σ' o' c' ho', Vec 1 (.slice o' rest.length c' 1) rest.length ((rest.map numOf).map (AV.int .i64)) ho' →
        HasH σ' ((bs, .cells [.int .i64 f, .int .i64 g0, .int .i64 c0, .str seed, .slice o' rest.length c' 1, .slice none 0 (some 0) 12] true) :: (b, .cells (pre ++ rest.map AV.str) true) :: (ho' ++ g)) → J (.exit 2) (f17e23 s br bs) σ' = some ()) →
      loopK (f17L38 (callK Tryz.prog N ann (d + 1)) dem N) f17a38 k J (f17e21 s br bs (some (b, 4)) rest.length none rest.length (i : Int)) σ = some () := by
  intro m
  induction m with
  | zero =>
    intro i k σ o c ho hi hk hV H kf
    obtain ⟨k, rfl⟩ : ∃ k', k = k' + 1 := ⟨k - 1, by omega⟩
    have hlt : ((i : Int) < (rest.length : Int)) = False := eq_false (by omega)
    rw [loopK_succ]
    simp only [go_sem, hlt]
    obtain rfl : i = rest.length := by omega
    rw [List.take_length] at hV
    exact kf _ _ _ _ hV H
  | succ m ih =>
    intro i k σ o c ho hi hk hV H kf
    obtain ⟨k, rfl⟩ : ∃ k', k = k' + 1 := ⟨k - 1, by omega⟩
    have hlt : ((i : Int) < (rest.length : Int)) = True := eq_true (by omega)
    have h0 : ((0 : Int) ≤ i) = True := eq_true (by omega)
    have hni := List.getElem?_eq_getElem (l := rest) (i := i) (by omega)
    have hgb : σ.get b = _ := H.g2
    have hgs : σ.get bs = _ := H.g1
    have hat : (pre ++ rest.map AV.str)[4 + i]? = some (AV.str rest[i]) := by
      rw [List.getElem?_append_right (by omega)]
      simp [hpre, hni]
    have hnat : ((i : Int)).toNat = i := by omega
    have hw : IntKind.i64.wrap ((i : Int) + 1) = ((i + 1 : Nat) : Int) := by rw [wrap_small (by omega) (by omega)]; rfl
    have hgd : goodS σ = true := hg σ fun p hp => H.get p (by simp [hp])
    have hts := hsz _ (List.getElem_mem (l := rest) (n := i) (by omega))
    have hnum : (toNumL rest[i]).getD 0 = numOf rest[i] := rfl
    have n1 : (bs = σ.next) = False := eq_false (by have := H.l1; omega)
    obtain ⟨o', c', σ', h', happ, hv', H'⟩ := hV.app (bytes := 8) (k := 1) (news := [AV.int .i64 (numOf rest[i])]) (has_down2 (H.new' (.cells [.int .i64 (numOf rest[i])] true))) (by decide) (by decide) rfl (by omega)
    have H2 := has_up2 H'
    have hg2 := H2.g1
    rw [loopK_succ]
    simp only [go_sem, hlt, h0, hnat, Nat.zero_add, Nat.mul_one, hgb, hat, toNum1 hgd (show rest[i].size ≤ 1000000000 by omega), numAV_eq, hnum, hgs, n1, elems_pos (show 1 ≠ 0 by decide), happ, hg2, hw]
    refine ih (i + 1) k _ o' c' h' (by omega) (by omega) ?_ (H2.put _) kf
    have e : ((rest.take (i + 1)).map numOf).map (AV.int .i64) = ((rest.take i).map numOf).map (AV.int .i64) ++ [AV.int .i64 (numOf rest[i])] := by
      rw [List.take_add_one, hni]
      simp only [Option.toList_some, List.map_append, List.map_cons, List.map_nil]
    rw [e]
    exact hv'

def zsC : List AV := [.int .i64 0, .int .i64 0, .int .i64 0, .str ⟨#[]⟩, .slice none 0 (some 0) 1, .slice none 0 (some 0) 12]

/-- The script of a head. -/
theorem headed_ok {s : ByteArray} {g : Hp} (hg : ∀ σ : St, (∀ p ∈ g, σ.get p.1 = some p.2) → goodS σ = true) (hN : 100000 < N) (hs : s.size ≤ 100000) (H : HasH σ g)
    (kont : ∀ σ' oo co ho, Vec 1 (.slice oo (headedL s).odd.length co 1) (headedL s).odd.length ((headedL s).odd.map (AV.int .i64)) ho → HasH σ' (ho ++ g) →
      K (.tuple [.agg [.int .i64 (headedL s).f, .int .i64 (headedL s).g, .int .i64 (headedL s).c, .str (headedL s).seed, .slice oo (headedL s).odd.length co 1, .slice none 0 (some 0) 12], .bool (headedL s).ok]) σ' = some ()) :
    callK Tryz.prog N ann (d + 4) dem 17 [.str s] σ K = some () := by
  obtain ⟨N, rfl⟩ : ∃ n, N = n + 4 := ⟨N - 4, by omega⟩
  have hgd : goodS σ = true := hg σ fun p hp => H.get p hp
  have H0 := H.new (.cells zsC true)
  have hgd1 : goodS (σ.new (.cells zsC true)) = true := hg _ fun p hp => H0.get p (by simp [hp])
  have bad : headedL s = ⟨0, 0, 0, ⟨#[]⟩, [], false⟩ → ∀ σ', HasH σ' g → K (.tuple [.agg zsC, .bool false]) σ' = some () := by
    intro e σ' H'
    rw [e] at kont
    exact kont σ' none (some 0) [] (Vec.nil 1) H'
  rw [go1 17 rfl, f17_eq]
  simp only [go_sem]
  refine unpack2 hgd1 (by omega) H0 ?_ ?_ ?_
  · intro a l b σ1 hu H1
    have hgr : σ1.get σ.next = _ := H1.g2
    have hsz := unpack_sizes hu
    simp only [zsC] at hgr bad
    by_cases h3 : l.length < 3
    · have h3' : (((l.length + 1 : Nat) : Int) < 4) = True := eq_true (by omega)
      have e : headedL s = ⟨0, 0, 0, ⟨#[]⟩, [], false⟩ := by
        unfold headedL
        rw [hu]
        match l, h3 with
        | [], _ => rfl
        | [_], _ => rfl
        | [_, _], _ => rfl
      simp only [go_sem, h3', decide_true, hgr]
      exact bad e _ (H1.tail.put _).tail
    · obtain ⟨t1, t2, t3, rest, rfl⟩ : ∃ t1 t2 t3 rest, l = t1 :: t2 :: t3 :: rest := by
        match l, h3 with
        | [], h => exact absurd (by simp) h
        | [_], h => exact absurd (by simp) h
        | [_, _], h => exact absurd (by simp) h
        | t1 :: t2 :: t3 :: rest, _ => exact ⟨t1, t2, t3, rest, rfl⟩
      have h3' : (((rest.length + 1 + 1 + 1 + 1 : Nat) : Int) < 4) = False := eq_false (by omega)
      have k0 : ((0 : Int) < ((rest.length + 1 + 1 + 1 + 1 : Nat) : Int)) = True := eq_true (by omega)
      have k1 : ((1 : Int) < ((rest.length + 1 + 1 + 1 + 1 : Nat) : Int)) = True := eq_true (by omega)
      have k2 : ((2 : Int) < ((rest.length + 1 + 1 + 1 + 1 : Nat) : Int)) = True := eq_true (by omega)
      have k3 : ((3 : Int) < ((rest.length + 1 + 1 + 1 + 1 : Nat) : Int)) = True := eq_true (by omega)
      have sza : a.size ≤ 1000000000 := by have := hsz a (by simp); omega
      have sz1 : t1.size ≤ 1000000000 := by have := hsz t1 (by simp); omega
      have sz2 : t2.size ≤ 1000000000 := by have := hsz t2 (by simp); omega
      have sz3 : t3.size < 1000000 := by have := hsz t3 (by simp); omega
      have hsr : ∀ t ∈ rest, t.size ≤ 1000000 := fun t h => by have := hsz t (by simp [h]); omega
      have hrl : rest.length ≤ 100000 := by
        have h1 := (unpack_back hu).1
        have h2 := pack_len (a :: t1 :: t2 :: t3 :: rest)
        have h4 : s.size = (packAll (a :: t1 :: t2 :: t3 :: rest)).length := by rw [h1, mk_size]
        simp at h2; omega
      simp only [List.map_cons] at H1
      have HA := ((H1.new (.cells zsC true)).new (.cells [.ptr (some (σ1.next, 0)), .ptr (some (σ1.next, 1)), .ptr (some (σ1.next, 2))] true)).rot
      simp only [St.next_new] at HA
      have gA := hg _ fun p hp => HA.get p (by simp [hp])
      have nb := H1.l1
      have n1 : (σ1.next = σ1.next + 1) = False := eq_false (by omega)
      have n2 : (σ1.next + 1 = σ1.next) = False := eq_false (by omega)
      have n3 : (b = σ1.next) = False := eq_false (by omega)
      have n4 : (b = σ1.next + 1) = False := eq_false (by omega)
      have hgb : σ1.get b = _ := H1.g1
      simp only [go_sem, h3', decide_false]
      rw [loopK_succ]
      have c0 : ((0 : Int) < ((3 : Nat) : Int)) = True := eq_true (by decide)
      have c1 : ((1 : Int) < ((3 : Nat) : Int)) = True := eq_true (by decide)
      have c2 : ((2 : Int) < ((3 : Nat) : Int)) = True := eq_true (by decide)
      have e1 : (1 : Int).toNat = 1 := rfl
      have e2 : (2 : Int).toNat = 2 := rfl
      have w1 : IntKind.i64.wrap 1 = 1 := wrap_small (by omega) (by omega)
      have w2 : IntKind.i64.wrap 2 = 2 := wrap_small (by omega) (by omega)
      have w3 : IntKind.i64.wrap 3 = 3 := wrap_small (by omega) (by omega)
      simp only [go_sem, zsC, n1, n2, n3, n4, hgb, k0, c0, Int.toNat_zero, Nat.zero_add, Nat.mul_one, Nat.zero_mul]
      simp only [zsC] at gA HA
      rw [toNum1 gA sza]
      simp only [go_sem, numAV_eq, n1, n2, n3, n4, w1]
      rw [loopK_succ]
      simp only [go_sem, n1, n2, n3, n4, hgb, k1, c1, e1, Nat.zero_add, Nat.mul_one]
      have HB := HA.put (.cells [.int .i64 (numOf a), .int .i64 0, .int .i64 0, .str ⟨#[]⟩, .slice none 0 (some 0) 1, .slice none 0 (some 0) 12] true)
      have gB := hg _ fun p hp => HB.get p (by simp [hp])
      rw [show (toNumL a).getD 0 = numOf a from rfl, toNum1 gB sz1]
      simp only [go_sem, numAV_eq, n1, n2, n3, n4, w2]
      rw [loopK_succ]
      simp only [go_sem, n1, n2, n3, n4, hgb, k2, c2, e2, Nat.zero_add, Nat.mul_one]
      have HC := HB.put (.cells [.int .i64 (numOf a), .int .i64 (numOf t1), .int .i64 0, .str ⟨#[]⟩, .slice none 0 (some 0) 1, .slice none 0 (some 0) 12] true)
      have gC := hg _ fun p hp => HC.get p (by simp [hp])
      rw [show (toNumL t1).getD 0 = numOf t1 from rfl, toNum1 gC sz2]
      simp only [go_sem, numAV_eq, n1, n2, n3, n4, w3]
      rw [loopK_succ]
      simp only [go_sem, n1, n2, n3, n4, hgb, k3, Nat.zero_add]
      have HD := ((HC.put (.cells [.int .i64 (numOf a), .int .i64 (numOf t1), .int .i64 (numOf t2), .str ⟨#[]⟩, .slice none 0 (some 0) 1, .slice none 0 (some 0) 12] true)).put (.cells [.int .i64 (numOf a), .int .i64 (numOf t1), .int .i64 (numOf t2), .str t3, .slice none 0 (some 0) 1, .slice none 0 (some 0) 12] true)).swap23
      have hsub : Sl.sub 1 ⟨some (b, 0), rest.length + 1 + 1 + 1 + 1, none⟩ (some 4) none none = some ⟨some (b, 4), rest.length, none⟩ := by
        rw [sub_from (by decide) (by omega)]
        simp
      rw [show (toNumL t2).getD 0 = numOf t2 from rfl]
      simp only [go_sem, hsub]
      refine headed_l (pre := [.str a, .str t1, .str t2, .str t3]) (g := (σ1.next + 1, .cells [.ptr (some (σ1.next, 0)), .ptr (some (σ1.next, 1)), .ptr (some (σ1.next, 2))] true) :: (σ.next, .cells zsC true) :: g) (fun σ h => hg σ fun p hp => h p (by simp [hp])) rfl hsr hrl rest.length 0 (N + 4) _ none (some 0) [] (by omega) (by omega) (Vec.nil 1) HD ?_
      intro σ3 o' c' ho' hV H3
      have hl : rest.length = (rest.map numOf).length := by simp
      rw [hl] at hV H3
      have H4 := has_down2 H3
      have hgs := H3.g1
      simp only [go_sem, hgs]
      have hodd : ∀ n ∈ rest.map numOf, i64 n := by
        intro n h
        obtain ⟨t, _, rfl⟩ := List.mem_map.1 h
        exact numOf_i64 t
      have he : headedL s = ⟨numOf a, numOf t1, numOf t2, t3, rest.map numOf, if headT (numOf a) (numOf t1) (numOf t2) t3 (rest.map numOf) = s then !wrongB (rest.map numOf).length t3 else false⟩ := by
        unfold headedL
        rw [hu, ← hl]
      rw [he] at kont
      refine head_ok (fun σ h => hg σ fun p hp => h p (by simp [hp])) (Row.ofVec hV) hodd (by rw [← hl]; exact hrl) hN (numOf_i64 a) (numOf_i64 t1) (numOf_i64 t2) sz3 H4 ?_
      intro σ4 H5
      have H6 := has_up2 H5
      have hgs4 := H6.g1
      have hgr4 : σ4.get σ.next = some (.cells zsC true) := H6.get (σ.next, _) (by simp)
      simp only [zsC] at hgr4
      by_cases hh : headT (numOf a) (numOf t1) (numOf t2) t3 (rest.map numOf) = s
      · rw [if_pos hh] at kont
        simp only [go_sem, hgs4, hh, decide_true]
        refine wrong_ok H5 ?_
        intro σ5 H7
        have H8 := has_up2 H7
        have hgs5 := H8.g1
        have hgr5 : σ5.get σ.next = some (.cells zsC true) := H8.get (σ.next, _) (by simp)
        simp only [zsC] at hgr5
        simp only [go_sem, hgs5, hgr5]
        exact kont _ o' c' ho' hV (H7.up.tail.up.tail.up.tail.up.put _).tail
      · rw [if_neg hh] at kont
        simp only [go_sem, hgs4, hh, decide_false, hgr4]
        exact kont _ o' c' ho' hV (H5.up.tail.up.tail.up.tail.up.put _).tail
  · intro hu
    have e : headedL s = ⟨0, 0, 0, ⟨#[]⟩, [], false⟩ := by unfold headedL; rw [hu]
    simp only [zsC] at bad
    have H0' := H0
    simp only [zsC] at H0'
    have z4 : (((0 : Nat) : Int) < 4) = True := eq_true (by decide)
    simp only [go_sem, z4, decide_true]
    exact bad e _ (H0'.put _).tail
  · intro hu
    have e : headedL s = ⟨0, 0, 0, ⟨#[]⟩, [], false⟩ := by unfold headedL; rw [hu]
    simp only [zsC] at bad
    have H0' := H0
    simp only [zsC] at H0'
    simp only [go_sem]
    exact bad e _ (H0'.put _).tail
end Go.Proofs.YtnjhcfcnpapaiaaGreatDoor

set_option linter.unusedVariables false
set_option linter.unusedSimpArgs false
namespace Go.Proofs.YtnjhcfcnpapaiaaGreatDoor
open Go.AM
set_option maxRecDepth 100000
variable {N d : Nat} {dem : Bool} {σ : St} {K : AV → St → Option Unit} {J : KF Unit}

def chsOf (t : ByteArray) : Chs := ⟨(chosenL t).1, (chosenL t).2.1⟩
/-- Where a script's texts go wrong; its choices. -/
def parseR : Nat → List ByteArray → Option (Int × Int) × List Chs
  | _, [] => (none, [])
  | i, t :: r => if i = 300 then (some (((i + 1 : Nat) : Int), 2), []) else if (chosenL t).2.2 = false then (some (((i + 1 : Nat) : Int), 4), []) else ((parseR (i + 1) r).1, chsOf t :: (parseR (i + 1) r).2)

theorem chosen_len (s : ByteArray) : (chosenL s).1.length = 8 ∧ (chosenL s).2.1.length = 4 := by
  unfold chosenL
  split
  · split
    · exact ⟨by simp [numsAt], by simp [txtsAt]⟩
    · exact ⟨rfl, rfl⟩
  · exact ⟨rfl, rfl⟩

theorem parse_l {rest : List ByteArray} {x : AV} {br bs b : Nat} {f g0 c0 : Int} {seed : ByteArray} {oo : Option (Nat × Nat)} {no : Nat} {co : Option Nat} {ho g : Hp} (hg : ∀ σ : St, (∀ p ∈ g, σ.get p.1 = some p.2) → goodS σ = true)
    (hN : 8 < N) (hsz : ∀ t ∈ rest, t.size < 1000000) (hlen : rest.length ≤ 100000)
    (kerr : ∀ a e σ', (parseR 0 rest).1 = some (a, e) → HasH σ' ((br, .cells zsC true) :: g) → J .ret (f8e9 br a e) σ' = some ())
    (kend : ∀ σ' ol cl hl, (parseR 0 rest).1 = none → Vec 12 (.slice ol (parseR 0 rest).2.length cl 12) (parseR 0 rest).2.length ((parseR 0 rest).2.flatMap chsC) hl →
      HasH σ' ((bs, .cells [.int .i64 f, .int .i64 g0, .int .i64 c0, .str seed, .slice oo no co 1, .slice ol (parseR 0 rest).2.length cl 12] true) :: (br, .cells zsC true) :: (hl ++ (ho ++ g))) → J (.exit 0) (f8e20 br bs) σ' = some ()) :
    ∀ (todo done : List ByteArray) (k : Nat) (σ : St) (ol : Option (Nat × Nat)) (cl : Option Nat) (hl : Hp), rest = done ++ todo → todo.length < k → done.length ≤ 300 →
      parseR 0 rest = ((parseR done.length todo).1, done.map chsOf ++ (parseR done.length todo).2) →
      Vec 12 (.slice ol done.length cl 12) done.length ((done.map chsOf).flatMap chsC) hl →
      HasH σ ((bs, .cells [.int .i64 f, .int .i64 g0, .int .i64 c0, .str seed, .slice oo no co 1, .slice ol done.length cl 12] true) :: (br, .cells zsC true) :: (hl ++ ((b, .cells (x :: rest.map AV.str) true) :: (ho ++ g)))) →
      loopK (f8L27 (callK Tryz.prog N ann (d + 7)) dem N) f8a27 k J (f8e18 br bs (some (b, 1)) rest.length none rest.length (done.length : Int)) σ = some () := by
  intro todo
  induction todo with
  | nil =>
    intro done k σ ol cl hl hr hk h300 hP hV H
    obtain ⟨k, rfl⟩ : ∃ k', k = k' + 1 := ⟨k - 1, by omega⟩
    rw [List.append_nil] at hr
    subst hr
    have hlt : ((rest.length : Int) < (rest.length : Int)) = False := eq_false (by omega)
    have hp2 : (parseR 0 rest).2 = rest.map chsOf := by rw [hP]; simp [parseR]
    have hp1 : (parseR 0 rest).1 = none := by rw [hP]; simp [parseR]
    rw [loopK_succ]
    simp only [go_sem, hlt]
    have kend' := kend σ ol cl hl
    rw [hp2, hp1, List.length_map] at kend'
    exact kend' rfl hV (H.sub (((List.Sublist.append_left (List.sublist_cons_self _ _) hl).cons_cons _).cons_cons _))
  | cons t todo ih =>
    intro done k σ ol cl hl hr hk h300 hP hV H
    obtain ⟨k, rfl⟩ : ∃ k', k = k' + 1 := ⟨k - 1, by omega⟩
    have hlr : rest.length = done.length + (todo.length + 1) := by rw [hr]; simp
    have hlt : ((done.length : Int) < (rest.length : Int)) = True := eq_true (by omega)
    have h0 : ((0 : Int) ≤ (done.length : Int)) = True := eq_true (by omega)
    have hti : rest[done.length]? = some t := by rw [hr, List.getElem?_append_right (Nat.le_refl _)]; simp
    have hgb : σ.get b = some (.cells (x :: rest.map AV.str) true) := H.get (b, _) (by simp)
    have hgr : σ.get br = _ := H.g2
    have hat : (x :: rest.map AV.str)[1 + done.length]? = some (AV.str t) := by
      rw [Nat.add_comm, List.getElem?_cons_succ, List.getElem?_map, hti]; rfl
    have hnat : ((done.length : Int)).toNat = done.length := by omega
    have hw : IntKind.i64.wrap ((done.length : Int) + 1) = ((done.length + 1 : Nat) : Int) := by rw [wrap_small (by omega) (by omega)]; rfl
    have hts := hsz t (by rw [hr]; simp)
    have Hg : HasH σ ((br, .cells zsC true) :: g) := by
      have := H.tail
      refine this.sub (List.Sublist.cons_cons _ ?_)
      exact ((List.sublist_append_right ho g).trans (List.sublist_cons_self _ _)).trans (List.sublist_append_right hl _)
    simp only [zsC] at hgr
    rw [loopK_succ]
    by_cases h3 : done.length = 300
    · have h3' : ((done.length : Int) == 300) = true := by rw [h3]; rfl
      have hp1 : (parseR 0 rest).1 = some (((done.length + 1 : Nat) : Int), 2) := by rw [hP]; simp [parseR, h3]
      simp only [go_sem, hlt, h0, hnat, Nat.mul_one, hgb, hat, h3', hgr, hw]
      have := kerr _ _ (σ.put br (.cells zsC true)) hp1 (Hg.put _)
      simp only [zsC] at this
      exact this
    · have h3' : ((done.length : Int) == 300) = false := by simp; omega
      simp only [go_sem, hlt, h0, hnat, Nat.mul_one, hgb, hat, h3']
      refine chosen_ok (fun σ h => hg σ fun p hp => h p (by simp [hp])) hN hts H ?_
      intro σ1 H1
      obtain ⟨hl8, hl4⟩ := chosen_len t
      obtain ⟨cn, hcn⟩ : ∃ cn, chosenL t = cn := ⟨_, rfl⟩
      rw [hcn] at hl8 hl4 ⊢
      obtain ⟨ns, ts, ok⟩ := cn
      simp only at hl8 hl4
      have hch : chsOf t = ⟨ns, ts⟩ := by unfold chsOf; rw [hcn]
      obtain ⟨y0, y1, y2, y3, y4, y5, y6, y7, rfl⟩ := list8 hl8
      obtain ⟨y8, y9, y10, y11, rfl⟩ := list4 hl4
      simp only [cellsC, List.map_cons, List.map_nil, List.cons_append, List.nil_append]
      have n1 : (br = σ1.next) = False := eq_false (by have := H1.l2; omega)
      have n2 : (bs = σ1.next) = False := eq_false (by have := H1.l1; omega)
      have hgr1 := H1.g2
      have hgs1 := H1.g1
      simp only [zsC] at hgr1
      have Hg1 : HasH σ1 ((br, .cells zsC true) :: g) := by
        refine H1.tail.sub (List.Sublist.cons_cons _ ?_)
        exact ((List.sublist_append_right ho g).trans (List.sublist_cons_self _ _)).trans (List.sublist_append_right hl _)
      cases ok with
      | false =>
        have hp1 : (parseR 0 rest).1 = some (((done.length + 1 : Nat) : Int), 4) := by rw [hP]; simp [parseR, h3, hcn]
        simp only [go_sem, Bool.not_false, n1, n2, hgr1, hw]
        have := kerr _ _ _ hp1 (((Hg1.new (.cells zerC true)).put (.cells [.int .i64 y0, .int .i64 y1, .int .i64 y2, .int .i64 y3, .int .i64 y4, .int .i64 y5, .int .i64 y6, .int .i64 y7, .str y8, .str y9, .str y10, .str y11] true)).tail.put (.cells zsC true))
        simp only [zsC, zerC] at this
        exact this
      | true =>
        have Hx := ((H1.new (.cells zerC true)).put (.cells [.int .i64 y0, .int .i64 y1, .int .i64 y2, .int .i64 y3, .int .i64 y4, .int .i64 y5, .int .i64 y6, .int .i64 y7, .str y8, .str y9, .str y10, .str y11] true)).tail.new' (.cells [.int .i64 y0, .int .i64 y1, .int .i64 y2, .int .i64 y3, .int .i64 y4, .int .i64 y5, .int .i64 y6, .int .i64 y7, .str y8, .str y9, .str y10, .str y11] true)
        simp only [zerC] at Hx
        obtain ⟨o', c', σ', h', happ, hv', H'⟩ := hV.app (bytes := 128) (k := 1) (news := [.int .i64 y0, .int .i64 y1, .int .i64 y2, .int .i64 y3, .int .i64 y4, .int .i64 y5, .int .i64 y6, .int .i64 y7, .str y8, .str y9, .str y10, .str y11]) (has_down2 Hx) (by decide) (by decide) rfl (by omega)
        have H2 := has_up2 H'
        have hgs2 := H2.g1
        simp only [go_sem, Bool.not_true, n1, n2, hgs1, elems_pos (show 1 ≠ 0 by decide), Nat.one_mul, happ, hgs2, hw]
        have hP' : parseR 0 rest = ((parseR (done ++ [t]).length todo).1, (done ++ [t]).map chsOf ++ (parseR (done ++ [t]).length todo).2) := by
          rw [hP]
          simp [parseR, h3, hcn]
        have hl1 : (done ++ [t]).length = done.length + 1 := by simp
        have := ih (done ++ [t]) k (σ'.put bs (.cells [.int .i64 f, .int .i64 g0, .int .i64 c0, .str seed, .slice oo no co 1, .slice o' (done.length + 1) c' 12] true)) o' c' h' (by rw [hr]; simp) (by simp at hk; omega) (by rw [hl1]; omega) hP'
          (by rw [hl1, List.map_append, List.flatMap_append]; simpa [hch, chsC, zerC] using hv')
          (by rw [hl1]; exact H2.put _)
        rw [hl1] at this
        exact this

def scr0 : Scr := ⟨0, 0, 0, ⟨#[]⟩, [], []⟩
def parseS (t : ByteArray) : Scr × Int × Int :=
  match unpackL t with
  | some (h :: rest) => if (headedL h).ok = false then (scr0, 0, 4) else match (parseR 0 rest).1 with
    | some (a, e) => (scr0, a, e)
    | none => (⟨(headedL h).f, (headedL h).g, (headedL h).c, (headedL h).seed, (headedL h).odd, (parseR 0 rest).2⟩, 0, 0)
  | _ => (scr0, 0, 4)

/-- The script of a text, or where it is none. -/
theorem parse_ok {t : ByteArray} {g : Hp} (hg : ∀ σ : St, (∀ p ∈ g, σ.get p.1 = some p.2) → goodS σ = true) (hN : 100000 < N) (hs : t.size ≤ 1000000000)
    (hparts : ∀ h r, unpackL t = some (h :: r) → h.size ≤ 100000 ∧ (∀ x ∈ r, x.size < 1000000) ∧ r.length < 100000) (H : HasH σ g)
    (kont : ∀ σ' oo co ho ol cl hl, Vec 1 (.slice oo (parseS t).1.odd.length co 1) (parseS t).1.odd.length ((parseS t).1.odd.map (AV.int .i64)) ho →
      Vec 12 (.slice ol (parseS t).1.l.length cl 12) (parseS t).1.l.length ((parseS t).1.l.flatMap chsC) hl → HasH σ' (hl ++ (ho ++ g)) →
      K (.tuple [.agg [.int .i64 (parseS t).1.f, .int .i64 (parseS t).1.g, .int .i64 (parseS t).1.c, .str (parseS t).1.seed, .slice oo (parseS t).1.odd.length co 1, .slice ol (parseS t).1.l.length cl 12], .int .i64 (parseS t).2.1, .int .i64 (parseS t).2.2]) σ' = some ()) :
    callK Tryz.prog N ann (d + 8) dem 8 [.str t] σ K = some () := by
  have hgd : goodS σ = true := hg σ fun p hp => H.get p hp
  have H0 := H.new (.cells zsC true)
  have hgd1 : goodS (σ.new (.cells zsC true)) = true := hg _ fun p hp => H0.get p (by simp [hp])
  have bad : ∀ a e, parseS t = (scr0, a, e) → ∀ σ', HasH σ' g → K (.tuple [.agg zsC, .int .i64 a, .int .i64 e]) σ' = some () := by
    intro a e h σ' H'
    rw [h] at kont
    exact kont σ' none (some 0) [] none (some 0) [] (Vec.nil 1) (Vec.nil 12) H'
  simp only [zsC] at bad
  have H0' := H0
  simp only [zsC] at H0'
  rw [go1 8 rfl, f8_eq]
  simp only [go_sem]
  refine unpack2 hgd1 (by omega) H0 ?_ ?_ ?_
  · intro a l b σ1 hu H1
    obtain ⟨ha, hr, hrl⟩ := hparts a l hu
    have hgr : σ1.get σ.next = _ := H1.g2
    have hgb : σ1.get b = _ := H1.g1
    simp only [zsC] at hgr
    have z1 : ((((l.length + 1 : Nat) : Int)) == 0) = false := by simp; omega
    have z2 : ((0 : Int) < ((l.length + 1 : Nat) : Int)) = True := eq_true (by omega)
    simp only [go_sem, z1, z2, hgb]
    refine headed_ok (fun σ h => hg σ fun p hp => h p (by simp [hp])) hN ha H1 ?_
    intro σ2 oo co ho hVo H2
    obtain ⟨hd, hhd⟩ : ∃ hd, headedL a = hd := ⟨_, rfl⟩
    rw [hhd] at hVo ⊢
    have n1 : (σ.next = σ2.next) = False := eq_false (Nat.ne_of_lt (H2.lt (σ.next, .cells zsC true) (by simp)))
    have hgr2 : σ2.get σ.next = some (.cells zsC true) := H2.get (σ.next, _) (by simp)
    simp only [zsC] at hgr2
    cases hok : hd.ok with
    | false =>
      have e : parseS t = (scr0, 0, 4) := by
        unfold parseS
        rw [hu]
        simp only [hhd, hok, if_true]
      simp only [go_sem, Bool.not_false, n1, hgr2]
      have := bad 0 4 e _ ((((H2.new (.cells zsC true)).put (.cells [.int .i64 hd.f, .int .i64 hd.g, .int .i64 hd.c, .str hd.seed, .slice oo hd.odd.length co 1, .slice none 0 (some 0) 12] true)).tail.up.tail.up.put (.cells zsC true)).tail.right)
      simp only [zsC] at this
      exact this
    | true =>
      have hsub : Sl.sub 1 ⟨some (b, 0), l.length + 1, none⟩ (some 1) none none = some ⟨some (b, 1), l.length, none⟩ := by
        rw [sub_from (by decide) (by omega)]
        simp
      have H3 := (H2.new (.cells zsC true)).put (.cells [.int .i64 hd.f, .int .i64 hd.g, .int .i64 hd.c, .str hd.seed, .slice oo hd.odd.length co 1, .slice none 0 (some 0) 12] true)
      have H4 : HasH ((σ2.new (.cells zsC true)).put σ2.next (.cells [.int .i64 hd.f, .int .i64 hd.g, .int .i64 hd.c, .str hd.seed, .slice oo hd.odd.length co 1, .slice none 0 (some 0) 12] true))
          ((σ2.next, .cells [.int .i64 hd.f, .int .i64 hd.g, .int .i64 hd.c, .str hd.seed, .slice oo hd.odd.length co 1, .slice none 0 (some 0) 12] true) :: (σ.next, .cells zsC true) :: ([] ++ ((b, .cells (.str a :: l.map AV.str) true) :: (ho ++ g)))) := by
        refine H3.perm (List.Perm.cons _ ?_)
        rw [List.nil_append]
        refine (List.perm_middle.trans (List.Perm.cons _ List.perm_middle)).trans (List.Perm.swap _ _ _)
      simp only [go_sem, Bool.not_true, n1, hsub]
      have hp : parseS t = match (parseR 0 l).1 with
          | some (a, e) => (scr0, a, e)
          | none => (⟨hd.f, hd.g, hd.c, hd.seed, hd.odd, (parseR 0 l).2⟩, 0, 0) := by
        unfold parseS
        rw [hu]
        simp only [hhd, hok, Bool.true_eq_false, if_false]
      simp only [zsC] at H4
      refine parse_l (x := .str a) (ho := ho) (g := g) hg (by omega) hr (by omega) ?_ ?_ l [] N _ none (some 0) [] rfl (by omega) (by simp) (by simp) (Vec.nil 12) H4
      · intro a' e' σ' h H'
        have hgr' := H'.g1
        simp only [zsC] at hgr'
        simp only [go_sem, hgr']
        exact bad a' e' (by rw [hp, h]) _ H'.tail
      · intro σ' ol cl hl h hV' H'
        have hgs' := H'.g1
        have hgr' := H'.g2
        simp only [zsC] at hgr'
        have e : parseS t = (⟨hd.f, hd.g, hd.c, hd.seed, hd.odd, (parseR 0 l).2⟩, 0, 0) := by rw [hp, h]
        rw [e] at kont
        simp only [go_sem, hgs', hgr']
        exact kont _ oo co ho ol cl hl hVo hV' (H'.tail.put _).tail
  · intro hu
    have e : parseS t = (scr0, 0, 4) := by unfold parseS; rw [hu]
    have z4 : ((((0 : Nat) : Int)) == 0) = true := rfl
    simp only [go_sem, z4]
    exact bad 0 4 e _ (H0'.put _).tail
  · intro hu
    have e : parseS t = (scr0, 0, 4) := by unfold parseS; rw [hu]
    simp only [go_sem]
    exact bad 0 4 e _ (H0'.put _).tail
end Go.Proofs.YtnjhcfcnpapaiaaGreatDoor

set_option linter.unusedVariables false
set_option linter.unusedSimpArgs false
namespace Go.Proofs.YtnjhcfcnpapaiaaGreatDoor
open Go.AM
set_option maxRecDepth 100000

theorem chosen_text {c : Chs} (h : c.ok) : chosenL c.text = (c.ns, c.ts, true) := by
  obtain ⟨h1, h2, h3, h4⟩ := h
  obtain ⟨l, e1, e2, e3, e4, e5⟩ := choice_back (ns := c.ns) (ts := c.ts) h1 (fun t ht => by have := h2 t ht; omega)
  have hl : l.length ≤ 12 := by rw [h3, h4] at e3; simpa using e3
  rw [h3] at e4 e5
  rw [h4] at e5
  unfold chosenL Chs.text
  rw [e1]
  simp only [if_pos hl, e4, e5, decide_true]
theorem chsOf_text {c : Chs} (h : c.ok) : chsOf c.text = c := by
  unfold chsOf; rw [chosen_text h]
theorem parse_texts : ∀ (l : List Chs) (i : Nat), (∀ c ∈ l, c.ok) → i + l.length ≤ 300 → parseR i (l.map Chs.text) = (none, l) := by
  intro l
  induction l with
  | nil => intro i _ _; rfl
  | cons c l ih =>
    intro i h hl
    have hc := h c (by simp)
    have := ih (i + 1) (fun x hx => h x (List.mem_cons_of_mem _ hx)) (by simp at hl; omega)
    rw [List.map_cons, parseR, if_neg (by simp at hl; omega), chosen_text hc, chsOf_text hc, this]
    simp
theorem headed_head {s : Scr} (h : s.ok) : headedL s.head = ⟨s.f, s.g, s.c, s.seed, s.odd, true⟩ := by
  have e := (head_back h).1
  unfold headedL
  rw [e]
  have hm : (s.odd.map itoaB).map numOf = s.odd := by
    rw [List.map_map]
    calc s.odd.map (numOf ∘ itoaB) = s.odd.map id := List.map_congr_left fun n hn => numOf_itoa (h.odd n hn)
      _ = s.odd := List.map_id _
  show Hd.mk (numOf (itoaB s.f)) (numOf (itoaB s.g)) (numOf (itoaB s.c)) s.seed ((s.odd.map itoaB).map numOf) (if headT (numOf (itoaB s.f)) (numOf (itoaB s.g)) (numOf (itoaB s.c)) s.seed ((s.odd.map itoaB).map numOf) = s.head then !wrongB (s.odd.map itoaB).length s.seed else false) = _
  rw [hm, numOf_itoa h.f, numOf_itoa h.g, numOf_itoa h.c]
  have hw : wrongB (s.odd.map itoaB).length s.seed = false := by
    unfold wrongB
    rw [if_neg (by have := h.odds; simp; omega)]
    have := h.seed
    exact decide_eq_false (by omega)
  rw [hw]
  simp [Scr.head]

/-- There. -/
theorem parse_format {s : Scr} (h : s.ok) (hl : s.l.length ≤ 300) : parseS (formatL s) = (s, 0, 0) := by
  unfold parseS
  rw [format_back h]
  simp only [headed_head h, parse_texts s.l 0 h.l (by omega), Bool.true_eq_false, if_false]

theorem parse_parts {s : Scr} (h : s.ok) (hl : s.l.length ≤ 300) : ∀ a r, unpackL (formatL s) = some (a :: r) → a.size ≤ 100000 ∧ (∀ x ∈ r, x.size < 1000000) ∧ r.length < 100000 := by
  intro a r e
  rw [format_back h] at e
  injection e with e
  injection e with e1 e2
  subst e1 e2
  refine ⟨by have := (head_back h).2; omega, ?_, by simp; omega⟩
  intro x hx
  obtain ⟨c, hc, rfl⟩ := List.mem_map.1 hx
  exact Chs.text_size (h.l c hc)
theorem format_size {s : Scr} (h : s.ok) (hl : s.l.length ≤ 300) : (formatL s).size ≤ 1000000000 := by
  unfold formatL
  rw [mk_size]
  have h1 := packAll_length_le 1000000 (by omega) (s.head :: s.l.map Chs.text) (fun t ht => by
    rcases List.mem_cons.1 ht with rfl | ht
    · have := (head_back h).2; omega
    · obtain ⟨c, hc, rfl⟩ := List.mem_map.1 ht
      have := Chs.text_size (h.l c hc); omega)
  have h2 : (s.head :: s.l.map Chs.text).length ≤ 301 := by simp; omega
  have := Nat.mul_le_mul_right (1000000 + 11) h2
  omega
theorem formatB_ok {s : Scr} (h : s.ok) (hl : s.l.length ≤ 300) : formatB s = false := by
  unfold formatB wrongB
  rw [if_neg (by omega), if_neg (by have := h.odds; omega)]
  have := h.seed
  exact decide_eq_false (by omega)

/-- And back. -/
theorem chosen_back {t : ByteArray} (h : (chosenL t).2.2 = true) : (chsOf t).text = t := by
  unfold chsOf Chs.text
  unfold chosenL at h ⊢
  split at h
  · split at h
    · rename_i l hl h12
      simp only [hl, if_pos h12]
      exact of_decide_eq_true h
    · cases h
  · cases h
theorem parse_back : ∀ (r : List ByteArray) (i : Nat), (parseR i r).1 = none → (parseR i r).2.map Chs.text = r ∧ (parseR i r).2.length = r.length ∧ (i ≤ 300 → i + r.length ≤ 300) ∧ (parseR i r).2 = r.map chsOf := by
  intro r
  induction r with
  | nil => intro i _; exact ⟨rfl, rfl, fun h => by simpa using h, rfl⟩
  | cons t r ih =>
    intro i h
    rw [parseR] at h ⊢
    split at h
    · cases h
    · rename_i h3
      rw [if_neg h3]
      split at h
      · cases h
      · rename_i hc
        rw [if_neg hc]
        obtain ⟨i1, i2, i3, i4⟩ := ih (i + 1) h
        refine ⟨?_, ?_, ?_, ?_⟩
        · rw [List.map_cons, i1, chosen_back (by simpa using hc)]
        · simp [i2]
        · intro hi
          have := i3 (by omega)
          simp; omega
        · rw [List.map_cons, ← i4]
theorem format_parse {t : ByteArray} (h : (parseS t).2.2 = 0) : formatL (parseS t).1 = t ∧ formatB (parseS t).1 = false := by
  unfold parseS at h ⊢
  split at h
  · rename_i hd rest hu
    split at h
    · cases h
    · rename_i hok
      have hok : (headedL hd).ok = true := by simpa using hok
      rw [if_neg (by rw [hok]; simp)]
      cases hp : (parseR 0 rest).1 with
      | some p =>
        obtain ⟨a, e⟩ := p
        rw [hp] at h
        exfalso
        have : ∀ (r : List ByteArray) (i : Nat) (a e : Int), (parseR i r).1 = some (a, e) → e ≠ 0 := by
          intro r
          induction r with
          | nil => intro i a e h; cases h
          | cons t r ih =>
            intro i a e h
            rw [parseR] at h
            split at h
            · injection h with h; injection h with _ h; subst h; decide
            · split at h
              · injection h with h; injection h with _ h; subst h; decide
              · exact ih _ _ _ h
        exact this _ _ _ _ hp h
      | none =>
        simp only
        obtain ⟨i1, i2, i3, i4⟩ := parse_back rest 0 hp
        unfold headedL at hok ⊢
        split at hok
        · rename_i t0 t1 t2 t3 rs hh
          simp only at hok
          split at hok
          · rename_i ht
            have hw : wrongB rs.length t3 = false := by simpa using hok
            constructor
            · unfold formatL
              simp only [Scr.head]
              rw [i1, ht]
              exact (unpack_back hu).1.symm
            · unfold formatB
              have := i3 (by omega)
              simp only
              rw [if_neg (by omega)]
              simpa using hw
          · cases hok
        · cases hok
  · cases h
end Go.Proofs.YtnjhcfcnpapaiaaGreatDoor
