/- What a heap has: blocks by their numbers, apart from each other; rows that grow. And how simp steps through code without looking at what comes behind. -/
import Derived.Test.YtnjhcfcnpapaiaaGreatDoorA28
import Derived.Attr
set_option linter.unusedVariables false
set_option linter.unusedSimpArgs false
namespace Go.AM

abbrev Hp := List (Nat × Blk)

/-- The state has these blocks, each once. -/
structure HasH (σ : St) (h : Hp) : Prop where
  nodup : (h.map Prod.fst).Nodup
  get : ∀ p ∈ h, σ.get p.1 = some p.2
  lt : ∀ p ∈ h, p.1 < σ.next

namespace HasH
variable {σ : St} {h h' r : Hp} {b c : Nat} {x y : Blk} {p q s t : Nat × Blk}

theorem nil : HasH σ [] := ⟨by simp, by simp, by simp⟩
theorem perm (H : HasH σ h) (e : h.Perm h') : HasH σ h' :=
  ⟨(e.map Prod.fst).nodup_iff.1 H.nodup, fun p hp => H.get p (e.mem_iff.2 hp), fun p hp => H.lt p (e.mem_iff.2 hp)⟩
theorem sub (H : HasH σ h) (e : h'.Sublist h) : HasH σ h' :=
  ⟨H.nodup.sublist (e.map Prod.fst), fun p hp => H.get p (e.subset hp), fun p hp => H.lt p (e.subset hp)⟩
theorem tail (H : HasH σ (p :: h)) : HasH σ h := H.sub (List.sublist_cons_self _ _)
theorem left (H : HasH σ (h ++ r)) : HasH σ h := H.sub (List.sublist_append_left _ _)
theorem right (H : HasH σ (h ++ r)) : HasH σ r := H.sub (List.sublist_append_right _ _)
theorem swap (H : HasH σ (h ++ h' ++ r)) : HasH σ (h' ++ h ++ r) := H.perm (List.perm_append_comm.append_right r)
theorem swapR (H : HasH σ (h ++ r)) : HasH σ (r ++ h) := H.perm List.perm_append_comm
theorem rot (H : HasH σ (p :: q :: h)) : HasH σ (q :: p :: h) := H.perm (List.Perm.swap _ _ _)
theorem new (H : HasH σ h) (x : Blk) : HasH (σ.new x) ((σ.next, x) :: h) := by
  refine ⟨?_, ?_, ?_⟩
  · simp only [List.map_cons, List.nodup_cons]
    refine ⟨fun hm => ?_, H.nodup⟩
    obtain ⟨p, hp, e⟩ := List.mem_map.1 hm
    have := H.lt p hp
    omega
  · intro p hp
    rcases List.mem_cons.1 hp with rfl | hp
    · simp
    · have := H.lt p hp
      rw [St.get_new, if_neg (by omega)]; exact H.get p hp
  · intro p hp
    rcases List.mem_cons.1 hp with rfl | hp
    · simp
    · have := H.lt p hp
      simp only [St.next_new]; omega
theorem new' (H : HasH σ h) (x : Blk) : HasH (σ.new x) h := (H.new x).tail
theorem put (H : HasH σ ((b, x) :: h)) (y : Blk) : HasH (σ.put b y) ((b, y) :: h) := by
  have nd := H.nodup
  simp only [List.map_cons, List.nodup_cons] at nd
  refine ⟨by simpa using nd, ?_, ?_⟩
  · intro p hp
    rcases List.mem_cons.1 hp with rfl | hp
    · simp
    · have : p.1 ≠ b := fun e => nd.1 (by rw [← e]; exact List.mem_map_of_mem hp)
      rw [St.get_put, if_neg this]; exact H.get p (List.mem_cons_of_mem _ hp)
  · intro p hp
    rcases List.mem_cons.1 hp with rfl | hp
    · simpa using H.lt (b, x) (by simp)
    · simpa using H.lt p (List.mem_cons_of_mem _ hp)
theorem put2 (H : HasH σ (p :: (b, x) :: h)) (y : Blk) : HasH (σ.put b y) (p :: (b, y) :: h) := (H.rot.put y).rot
theorem put3 (H : HasH σ (p :: q :: (b, x) :: h)) (y : Blk) : HasH (σ.put b y) (p :: q :: (b, y) :: h) :=
  ((H.perm ((List.Perm.swap _ _ _).cons p)).put2 y).perm ((List.Perm.swap _ _ _).cons p)
theorem put4 (H : HasH σ (p :: q :: s :: (b, x) :: h)) (y : Blk) : HasH (σ.put b y) (p :: q :: s :: (b, y) :: h) :=
  ((H.perm ((List.Perm.swap _ _ _).cons _ |>.cons _)).put3 y).perm ((List.Perm.swap _ _ _).cons _ |>.cons _)
theorem drop2 (H : HasH σ (p :: q :: h)) : HasH σ (p :: h) := H.sub ((List.sublist_cons_self _ _).cons_cons _)
theorem drop3 (H : HasH σ (p :: q :: s :: h)) : HasH σ (p :: q :: h) := H.sub (((List.sublist_cons_self _ _).cons_cons _).cons_cons _)
theorem drop4 (H : HasH σ (p :: q :: s :: t :: h)) : HasH σ (p :: q :: s :: h) := H.sub ((((List.sublist_cons_self _ _).cons_cons _).cons_cons _).cons_cons _)
theorem swap23 (H : HasH σ (p :: q :: s :: h)) : HasH σ (p :: s :: q :: h) := H.perm ((List.Perm.swap _ _ _).cons _)
theorem dead (H : HasH σ ((b, x) :: h)) (y : Blk) : HasH (σ.put b y) h := (H.put y).tail

theorem g1 (H : HasH σ ((b, x) :: h)) : σ.get b = some x := H.get (b, x) (by simp)
theorem g2 (H : HasH σ (p :: (b, x) :: h)) : σ.get b = some x := H.get (b, x) (by simp)
theorem g3 (H : HasH σ (p :: q :: (b, x) :: h)) : σ.get b = some x := H.get (b, x) (by simp)
theorem g4 (H : HasH σ (p :: q :: s :: (b, x) :: h)) : σ.get b = some x := H.get (b, x) (by simp)
theorem l1 (H : HasH σ ((b, x) :: h)) : b < σ.next := H.lt (b, x) (by simp)
theorem l2 (H : HasH σ (p :: (b, x) :: h)) : b < σ.next := H.lt (b, x) (by simp)
theorem l3 (H : HasH σ (p :: q :: (b, x) :: h)) : b < σ.next := H.lt (b, x) (by simp)
theorem l4 (H : HasH σ (p :: q :: s :: (b, x) :: h)) : b < σ.next := H.lt (b, x) (by simp)
theorem down (H : HasH σ (p :: (h ++ r))) : HasH σ (h ++ p :: r) := H.perm List.perm_middle.symm
theorem up (H : HasH σ (h ++ p :: r)) : HasH σ (p :: (h ++ r)) := H.perm List.perm_middle
theorem dropMid (H : HasH σ (p :: (h ++ q :: r))) : HasH σ (p :: (h ++ r)) := H.sub (((List.sublist_cons_self _ _).append_left _).cons_cons _)
theorem mid {h1 h2 : Hp} (H : HasH σ (h1 ++ (h2 ++ r))) : HasH σ (h2 ++ (h1 ++ r)) := by
  rw [← List.append_assoc] at H ⊢; exact H.swap
theorem pc {a b c : Hp} : (a ++ (b ++ c)).Perm (b ++ (a ++ c)) := List.perm_append_comm_assoc _ _ _
theorem mid3 {h1 h2 h3 : Hp} (H : HasH σ (h1 ++ (h2 ++ (h3 ++ r)))) : HasH σ (h3 ++ (h1 ++ (h2 ++ r))) := H.perm ((List.Perm.append_left h1 pc).trans pc)
theorem mid4 {h1 h2 h3 h4 : Hp} (H : HasH σ (h1 ++ (h2 ++ (h3 ++ (h4 ++ r))))) : HasH σ (h4 ++ (h1 ++ (h2 ++ (h3 ++ r)))) := H.perm ((List.Perm.append_left h1 ((List.Perm.append_left h2 pc).trans pc)).trans pc)
theorem mid5 {h1 h2 h3 h4 h5 : Hp} (H : HasH σ (h1 ++ (h2 ++ (h3 ++ (h4 ++ (h5 ++ r)))))) : HasH σ (h5 ++ (h1 ++ (h2 ++ (h3 ++ (h4 ++ r))))) := H.perm ((List.Perm.append_left h1 ((List.Perm.append_left h2 ((List.Perm.append_left h3 pc).trans pc)).trans pc)).trans pc)
theorem mid6 {h1 h2 h3 h4 h5 h6 : Hp} (H : HasH σ (h1 ++ (h2 ++ (h3 ++ (h4 ++ (h5 ++ (h6 ++ r))))))) : HasH σ (h6 ++ (h1 ++ (h2 ++ (h3 ++ (h4 ++ (h5 ++ r)))))) := H.perm ((List.Perm.append_left h1 ((List.Perm.append_left h2 ((List.Perm.append_left h3 ((List.Perm.append_left h4 pc).trans pc)).trans pc)).trans pc)).trans pc)
theorem mid7 {h1 h2 h3 h4 h5 h6 h7 : Hp} (H : HasH σ (h1 ++ (h2 ++ (h3 ++ (h4 ++ (h5 ++ (h6 ++ (h7 ++ r)))))))) : HasH σ (h7 ++ (h1 ++ (h2 ++ (h3 ++ (h4 ++ (h5 ++ (h6 ++ r))))))) := H.perm ((List.Perm.append_left h1 ((List.Perm.append_left h2 ((List.Perm.append_left h3 ((List.Perm.append_left h4 ((List.Perm.append_left h5 pc).trans pc)).trans pc)).trans pc)).trans pc)).trans pc)
theorem nd (H : HasH σ h) : (h.map Prod.fst).Pairwise fun a b => ¬ a = b ∧ ¬ b = a := H.nodup.imp fun h => ⟨h, fun e => h e.symm⟩
theorem n12 (H : HasH σ ((b, x) :: (c, y) :: h)) : b ≠ c := by have := H.nodup; simp at this; exact fun e => this.1.1 e
end HasH

/-- A row that grows: of n elements of z cells each; what lies behind them is nobody's. -/
def Vec (z : Nat) (v : AV) (n : Nat) (xs : List AV) (h : Hp) : Prop :=
  xs.length = n * z ∧ ((v = .slice none 0 (some 0) z ∧ n = 0 ∧ h = []) ∨
    ∃ b c junk, v = .slice (some (b, 0)) n c z ∧ h = [(b, .cells (xs ++ junk) true)] ∧ (c = none ∨ ∃ k, c = some k ∧ k * z = (xs ++ junk).length))

theorem Vec.nil (z : Nat) : Vec z (.slice none 0 (some 0) z) 0 [] [] := ⟨by simp, .inl ⟨rfl, rfl, rfl⟩⟩

theorem Vec.sl {z : Nat} {v : AV} {n : Nat} {xs : List AV} {h : Hp} (hv : Vec z v n xs h) : ∃ o c, v = .slice o n c z := by
  rcases hv.2 with ⟨rfl, rfl, rfl⟩ | ⟨b, c, junk, rfl, rfl, _⟩
  · exact ⟨_, _, rfl⟩
  · exact ⟨_, _, rfl⟩

/-- Its cells are there. -/
theorem Vec.ld {z : Nat} {o : Option (Nat × Nat)} {n : Nat} {c : Option Nat} {xs : List AV} {h r : Hp} {σ : St} (hv : Vec z (.slice o n c z) n xs h) (H : HasH σ (h ++ r)) {i : Nat} {x : AV} (hi : xs[i]? = some x) :
    ∃ b, o = some (b, 0) ∧ σ.ld b i = some x := by
  rcases hv.2 with ⟨e, rfl, rfl⟩ | ⟨b, c', junk, e, rfl, _⟩
  · have := hv.1
    simp at this
    subst this
    simp at hi
  · injection e with e1 e2 e3 e4
    refine ⟨b, e1, ?_⟩
    have hg : σ.get b = some (.cells (xs ++ junk) true) := H.g1
    rw [St.ld_of _ hg, List.getElem?_append_left (by obtain ⟨h, _⟩ := List.getElem?_eq_some_iff.1 hi; exact h)]
    exact hi

/-- The row of one that is not empty. -/
theorem Vec.row {z : Nat} {o : Option (Nat × Nat)} {n m : Nat} {c : Option Nat} {xs : List AV} {h : Hp} (hv : Vec z (.slice o m c z) n xs h) (hn : n ≠ 0) :
    m = n ∧ ∃ b junk, o = some (b, 0) ∧ h = [(b, .cells (xs ++ junk) true)] ∧ (c = none ∨ ∃ k, c = some k ∧ k * z = (xs ++ junk).length) := by
  rcases hv.2 with ⟨_, rfl, _⟩ | ⟨b, c', junk, e, rfl, hc⟩
  · exact absurd rfl hn
  · injection e with e1 e2 e3 e4
    subst e1 e2 e3
    exact ⟨rfl, b, junk, rfl, rfl, hc⟩

/-- append. -/
theorem Vec.app {z bytes : Nat} {o : Option (Nat × Nat)} {n : Nat} {c : Option Nat} {xs : List AV} {h r : Hp} {σ : St} (hv : Vec z (.slice o n c z) n xs h) (H : HasH σ (h ++ r)) {k : Nat} {news : List AV} (hk : 0 < k) (hz : 0 < z)
    (hn : news.length = k * z) (hb : (n + k) * (bytes + 1) ≤ 2 ^ 46) :
    ∃ o' c' σ' h', σ.app z bytes ⟨o, n, c⟩ k news = some (⟨o', n + k, c'⟩, σ') ∧ Vec z (.slice o' (n + k) c' z) (n + k) (xs ++ news) h' ∧ HasH σ' (h' ++ r) := by
  have hlen : (xs ++ news).length = (n + k) * z := by simp [hv.1, hn, Nat.add_mul]
  unfold St.app
  simp only [show k ≠ 0 by omega, if_false, show ¬ (n + k) * (bytes + 1) > 2 ^ 46 by omega]
  rcases hv.2 with ⟨e, rfl, rfl⟩ | ⟨b, c', junk, e, rfl, hc⟩
  · injection e with e1 e2 e3 e4
    subst e1 e3
    have hxs : xs = [] := by have := hv.1; simpa using this
    subst hxs
    simp only [show ¬ 0 + k ≤ 0 by omega, if_false, St.elems, if_true, Option.bind_some, List.nil_append]
    refine ⟨_, _, _, _, rfl, ⟨hlen, .inr ⟨σ.next, none, [], rfl, rfl, .inl rfl⟩⟩, ?_⟩
    simpa using H.new (.cells news true)
  · injection e with e1 e2 e3 e4
    subst e1 e3
    have H' : HasH σ ((b, .cells (xs ++ junk) true) :: r) := H
    have hg := H'.g1
    have hxl : xs.length = n * z := hv.1
    have inplace : n * z + news.length ≤ (xs ++ junk).length → σ.st b (0 + n * z) news = some (σ.put b (.cells ((xs ++ news) ++ junk.drop news.length) true)) := by
      intro hl
      rw [Nat.zero_add, St.st_of _ hg _ _ hl]
      congr 3
      simp only [St.splice, ← hxl, List.take_left, List.append_assoc, List.append_cancel_left_eq]
      rw [List.drop_append, List.drop_eq_nil_of_le (Nat.le_add_right _ _), List.nil_append]
      congr 1; omega
    have Hput : HasH (σ.put b (.cells ((xs ++ news) ++ junk.drop news.length) true)) ([(b, .cells ((xs ++ news) ++ junk.drop news.length) true)] ++ r) := H'.put _
    cases hcc : c with
    | none =>
      simp only [Option.bind_some, St.rowOwn_of σ hg]
      by_cases hfit : 0 + (n + k) * z ≤ (xs ++ junk).length
      · rw [if_pos hfit, inplace (by rw [hn, ← Nat.add_mul]; simpa using hfit)]
        exact ⟨_, _, _, _, rfl, ⟨hlen, .inr ⟨b, none, junk.drop news.length, rfl, rfl, .inl rfl⟩⟩, Hput⟩
      · rw [if_neg hfit, if_pos (by rw [Nat.zero_add, ← hxl]; simp)]
        refine ⟨_, _, _, _, rfl, ⟨hlen, .inr ⟨σ.next, none, [], ?_, rfl, .inl rfl⟩⟩, ?_⟩
        · rfl
        · have : List.take (n * z) (List.drop 0 (xs ++ junk)) = xs := by rw [List.drop_zero, ← hxl, List.take_left]
          simp only [this, List.append_nil]
          exact (H'.dead .dead).new _
    | some m =>
      simp only [Option.bind_some]
      rcases hc with hc | ⟨k', hc, hk'⟩
      · rw [hcc] at hc; cases hc
      · rw [hcc] at hc
        obtain rfl : m = k' := by injection hc
        by_cases hfit : n + k ≤ m
        · rw [if_pos hfit, inplace (by rw [hn, ← Nat.add_mul, ← hk']; exact Nat.mul_le_mul_right z hfit)]
          refine ⟨_, _, _, _, rfl, ⟨hlen, .inr ⟨b, some m, junk.drop news.length, rfl, rfl, .inr ⟨m, rfl, ?_⟩⟩⟩, Hput⟩
          rw [hk']
          have h2 : (n + k) * z ≤ m * z := Nat.mul_le_mul_right z hfit
          rw [hk'] at h2
          simp only [List.length_append, List.length_drop] at h2 ⊢
          have : xs.length + news.length = (n + k) * z := by rw [← List.length_append]; exact hlen
          omega
        · rw [if_neg hfit]
          have hel : σ.elems z ⟨some (b, 0), n, some m⟩ n = some xs := by
            unfold St.elems
            by_cases hn0 : n = 0
            · subst hn0
              have : xs = [] := by simpa using hxl
              simp [this]
            · rw [if_neg hn0, if_pos (Nat.le_refl n)]
              simp only [Option.bind_some]
              rw [St.lds_of _ hg _ _ (by rw [Nat.zero_add, ← hxl]; simp), List.drop_zero, ← hxl, List.take_left]
          rw [hel]
          refine ⟨_, _, _, _, rfl, ⟨hlen, .inr ⟨σ.next, none, [], rfl, rfl, .inl rfl⟩⟩, ?_⟩
          simp only [List.append_nil]
          exact H'.tail.new _

theorem splice_at (p q vs : List AV) : St.splice (p ++ q) p.length vs = p ++ (vs ++ q.drop vs.length) := by
  simp only [St.splice, List.take_left, List.append_assoc, List.append_cancel_left_eq]
  rw [List.drop_append, List.drop_eq_nil_of_le (Nat.le_add_right _ _), List.nil_append]
  congr 2; omega

/-- Slices of a slice. -/
theorem sub_from {z n : Nat} {o : Option (Nat × Nat)} {c : Option Nat} {i : Int} (h0 : 0 ≤ i) (h1 : i ≤ n) :
    Sl.sub z ⟨o, n, c⟩ (some i) none none = some ⟨o.map fun a => if c.isSome = true ∧ c.getD n = i.toNat then a else (a.1, a.2 + i.toNat * z), n - i.toNat, c.map (· - i.toNat)⟩ := hide (by
  simp [Sl.sub, h0, h1])
theorem sub_to {z n : Nat} {o : Option (Nat × Nat)} {c : Option Nat} {i : Int} (h0 : 0 ≤ i) (h1 : i ≤ c.getD n) :
    Sl.sub z ⟨o, n, c⟩ none (some i) none = some ⟨o, i.toNat, c⟩ := hide (by
  cases c <;> cases o <;> simp_all [Sl.sub])

/- Simp steps through code: what comes behind is left alone. -/
section
variable {R : Type} {P : Program} {N : Nat} {ann : FuncId → Ann} {d : Nat} {dem : Bool} {f : FuncId} {σ σ' : St} {call : Bool → CallF R}
/-- So that a step counts as one. -/
def tick : Nat := 0
theorem tick_eq : tick = 0 := hide rfl
theorem bind_congr1 {α β : Type} {a a' : Option α} {g : α → Option β} (h : a = a') {t : Nat} (_ : tick = t) : Option.bind a g = Option.bind a' g := by rw [h]
theorem ite_congr1 {α : Type} {c c' : Prop} [Decidable c] [Decidable c'] {a b : α} (h : c = c') {t : Nat} (_ : tick = t) : ite c a b = ite c' a b := by
  by_cases hc : c
  · rw [if_pos hc, if_pos (h ▸ hc)]
  · rw [if_neg hc, if_neg (h ▸ hc)]
theorem callK_congr1 [Spec] {args args' : List AV} {K : AV → St → Option R} (h1 : args = args') (h2 : σ = σ') {t : Nat} (_ : tick = t) : callK P N ann d dem f args σ K = callK P N ann d dem f args' σ' K := by rw [h1, h2]
theorem runK_congr1 {c : Code} {A : Ann} {J : KF R} {e e' : Env} (he : e = e') (h : σ = σ') {t : Nat} (_ : tick = t) : runK P call dem N c A J e σ = runK P call dem N c A J e' σ' := by rw [he, h]
theorem nextK_congr1 {R : Type} {dem : Bool} {σ σ' : St} {b : Nat} {K0 : Option R} {K1 : AV → AV → St → Option R} (h : σ = σ') {t : Nat} (_ : tick = t) : nextK dem σ b K0 K1 = nextK dem σ' b K0 K1 := by rw [h]
theorem loopK_congr1 {body : KF R → Env → St → Option R} {A : Ann} {n : Nat} {J : KF R} {e e' : Env} (he : e = e') (h : σ = σ') {t : Nat} (_ : tick = t) : loopK body A n J e σ = loopK body A n J e' σ' := by rw [he, h]
theorem seqC_congr1 {next : KF R → Env → St → Option R} {A : Ann} {J : KF R} {x : Ex} {e e' : Env} (he : e = e') (h : σ = σ') {t : Nat} (_ : tick = t) : seqC next A J x e σ = seqC next A J x e' σ' := by rw [he, h]
theorem condC_congr1 {A : Ann} {J : KF R} {x : Ex} {e e' : Env} (he : e = e') (h : σ = σ') {t : Nat} (_ : tick = t) : condC A J x e σ = condC A J x e' σ' := by rw [he, h]
theorem blockC_congr1 {i : Nat} {A : Ann} {J : KF R} {x : Ex} {e e' : Env} (he : e = e') (h : σ = σ') {t : Nat} (_ : tick = t) : blockC i A J x e σ = blockC i A J x e' σ' := by rw [he, h]
theorem loopC_congr1 {body : KF R → Env → St → Option R} {A : Ann} {n : Nat} {J : KF R} {x : Ex} {e e' : Env} (he : e = e') (h : σ = σ') {t : Nat} (_ : tick = t) : loopC body A n J x e σ = loopC body A n J x e' σ' := by rw [he, h]
theorem bodyC_congr1 {rs : List ResultVar} {K : AV → St → Option R} {x : Ex} {e e' : Env} (he : e = e') (h : σ = σ') {t : Nat} (_ : tick = t) : bodyC P rs K x e σ = bodyC P rs K x e' σ' := by rw [he, h]
end
attribute [congr] bind_congr1 ite_congr1 callK_congr1 nextK_congr1 runK_congr1 loopK_congr1 seqC_congr1 condC_congr1 blockC_congr1 loopC_congr1 bodyC_congr1
theorem bind_some' {α β : Type} (a : α) (g : α → Option β) : Option.bind (some a) g = g a := hide rfl
theorem ite_true' {α : Type} (a b : α) : (if True then a else b) = a := hide (if_pos trivial)
theorem ite_false' {α : Type} (a b : α) : (if False then a else b) = b := hide (if_neg not_false)
theorem toBool_eq (b : Bool) : AV.toBool (.bool b) = some b := hide rfl
theorem toInt_eq (k : IntKind) (n : Int) : AV.toInt k (.int k n) = some n := hide (by simp [AV.toInt])
theorem toStr_eq (s : ByteArray) : AV.toStr (.str s) = some s := hide rfl
theorem toPtr_eq (p : Option (Nat × Nat)) : AV.toPtr (.ptr p) = some p := hide rfl
theorem toSl_eq (o : Option (Nat × Nat)) (l : Nat) (c : Option Nat) (f : Nat) : AV.toSl f (.slice o l c f) = some ⟨o, l, c⟩ := hide (by simp [AV.toSl])
theorem toMap_eq (m : Option Nat) : AV.toMap (.map m) = some m := hide rfl
theorem toAgg_eq (l : List AV) : AV.toAgg (.agg l) = some l := hide rfl
theorem toTuple_eq (l : List AV) : AV.toTuple (.tuple l) = some l := hide rfl
theorem Sl_o (o : Option (Nat × Nat)) (l : Nat) (c : Option Nat) : Sl.o ⟨o, l, c⟩ = o := hide rfl
theorem Sl_len (o : Option (Nat × Nat)) (l : Nat) (c : Option Nat) : Sl.len ⟨o, l, c⟩ = l := hide rfl
theorem Sl_cap (o : Option (Nat × Nat)) (l : Nat) (c : Option Nat) : Sl.cap ⟨o, l, c⟩ = c := hide rfl
theorem ld_get {σ : St} {b off : Nat} : σ.ld b off = (match σ.get b with | some (.cells cs _) => cs[off]? | _ => none) := hide (by
  unfold St.ld St.row
  cases σ.get b with
  | none => rfl
  | some x => cases x <;> rfl)
theorem st_get {σ : St} {b off : Nat} {vs : List AV} : σ.st b off vs = (match σ.get b with | some (.cells cs true) => if off + vs.length ≤ cs.length then some (σ.put b (.cells (St.splice cs off vs) true)) else none | _ => none) := hide (by
  unfold St.st St.rowOwn
  cases σ.get b with
  | none => rfl
  | some x => cases x with
    | cells cs own => cases own <;> rfl
    | _ => rfl)
theorem lds_get {σ : St} {b off n : Nat} : σ.lds b off n = (match σ.get b with | some (.cells cs _) => if off + n ≤ cs.length then some ((cs.drop off).take n) else none | _ => none) := hide (by
  unfold St.lds St.row
  cases σ.get b with
  | none => rfl
  | some x => cases x <;> rfl)
theorem same_get {σ : St} {b off : Nat} {vs : List AV} : σ.same b off vs = (match σ.lds b off vs.length with | some us => AV.beqL us vs | none => false) := hide rfl
theorem beqL_nil : AV.beqL [] [] = true := hide (by simp [AV.beqL])
theorem beqL_cons (a b : AV) (x y : List AV) : AV.beqL (a :: x) (b :: y) = (AV.beq a b && AV.beqL x y) := hide (by simp [AV.beqL])
theorem beq_int (k : IntKind) (n : Int) : AV.beq (.int k n) (.int k n) = true := hide (by simp [AV.beq])
theorem beq_bool (b : Bool) : AV.beq (.bool b) (.bool b) = true := hide (by simp [AV.beq])
theorem beq_str (s : ByteArray) : AV.beq (.str s) (.str s) = true := hide (by simp [AV.beq])
theorem beq_ptr (p : Option (Nat × Nat)) : AV.beq (.ptr p) (.ptr p) = true := hide (by simp [AV.beq])
theorem beq_map (p : Option Nat) : AV.beq (.map p) (.map p) = true := hide (by simp [AV.beq])
theorem beq_slice (o : Option (Nat × Nat)) (n : Nat) (c : Option Nat) (e : Nat) : AV.beq (.slice o n c e) (.slice o n c e) = true := hide (by simp [AV.beq])
theorem elems_zero {σ : St} {z : Nat} {s : Sl} : σ.elems z s 0 = some [] := hide rfl
theorem elems_pos {σ : St} {z n : Nat} {s : Sl} (h : n ≠ 0) : σ.elems z s n = if n ≤ s.len then s.o.bind fun a => σ.lds a.1 a.2 (n * z) else none := hide (if_neg h)
theorem splice_nil (l : List AV) : St.splice l 0 [] = l := hide (by simp [St.splice])
theorem splice_zero (a x : AV) (l vs : List AV) : St.splice (a :: l) 0 (x :: vs) = x :: St.splice l 0 vs := hide (by simp [St.splice])
theorem splice_succ (a : AV) (l vs : List AV) (n : Nat) : St.splice (a :: l) (n + 1) vs = a :: St.splice l n vs := hide (by
  simp only [St.splice, List.take_succ_cons, List.cons_append, List.append_assoc, show n + 1 + vs.length = (n + vs.length) + 1 by omega, List.drop_succ_cons])
attribute [go_sem] splice_nil splice_zero splice_succ lds_get same_get beqL_nil beqL_cons beq_int beq_bool beq_str beq_ptr beq_map beq_slice Bool.and_self Bool.and_true Bool.true_and elems_zero Nat.le_refl
attribute [go_sem] Nat.reduceLeDiff Nat.reduceLT Nat.reduceEqDiff Nat.reduceBEq Nat.reduceBNe Nat.reduceSub Nat.reduceMul Int.reduceLT Int.reduceLE Int.reduceEq Int.reduceBEq Int.reduceBNe Int.reduceAdd Int.reduceSub Int.reduceMul Int.reduceNeg Int.reduceToNat
attribute [go_sem] List.drop_zero List.drop_succ_cons List.take_succ_cons List.take_zero decide_true decide_false Bool.not_true Bool.not_false Option.isNone_some Option.isNone_none Option.isSome_some Option.isSome_none
attribute [go_sem] and_self true_and and_true false_and and_false ge_iff_le gt_iff_lt ne_eq not_true_eq_false not_false_eq_true
attribute [go_sem] beq_self_eq_true Bool.true_beq Bool.false_beq bne_self_eq_false Bool.not_not
attribute [go_sem] tick_eq seqC_normal seqC_exit seqC_ret condC_normal condC_exit condC_ret blockC_normal' blockC_exit blockC_ret' loopC_normal loopC_exit loopC_ret
attribute [go_sem] toTuple_eq toAgg_eq toInt_eq toStr_eq toBool_eq toSl_eq toPtr_eq toMap_eq Sl_o Sl_len Sl_cap bind_some' ite_true' ite_false' List.head?_cons List.tail_cons List.length_cons List.length_nil Nat.zero_add Nat.reduceAdd
attribute [go_sem] List.getElem?_cons_zero List.getElem?_cons_succ ld_get st_get St.get_new St.get_put St.next_new St.next_put Bool.false_eq_true

end Go.AM
