/- A window's slots. -/
import Derived.Test.YtmgacgonoodkfaaW2
import Derived.Test.YtmgacgonoodkfaaWiAt
namespace Go.Proofs.Ytmgacgonoodkfaa
open Go.AM
set_option maxRecDepth 100000
set_option linter.unusedSimpArgs false
set_option linter.unusedVariables false
variable {N d : Nat} {dem : Bool} {σ : St} {K : AV → St → Option Unit}

theorem keyArg_place (v n : Int) : keyArg (Program.mk Try.progTables Try.funcs) 105 (.agg [.int .i64 v, .int .i64 n]) = some (true, [.int .i64, .int .i64], [.int .i64 v, .int .i64 n]) := by
  have h : keySh (Program.mk Try.progTables Try.funcs) 105 = some (true, [.int .i64, .int .i64]) := by kernel_rfl
  simp [keyArg, h, keyCells, eqCells, eqCell, AV.toAgg]

theorem find_en (es : List En) (v n : Int) : (∃ e ∈ es, e.view = v ∧ e.number = n ∧ ∃ i, findKey true [.int .i64, .int .i64] [.int .i64 v, .int .i64 n] (es.map En.av) 0 = some (some (i, .ptr (some (e.s, 0))))) ∨
    ((∀ e ∈ es, ¬ (e.view = v ∧ e.number = n)) ∧ findKey true [.int .i64, .int .i64] [.int .i64 v, .int .i64 n] (es.map En.av) 0 = some none) := by
  rcases EK.find (v, n) es 0 with ⟨j, e, h1, h2, h3⟩ | ⟨h1, h2⟩
  · left
    have hk : (e.view, e.number) = (v, n) := h2
    simp only [Prod.mk.injEq] at hk
    exact ⟨e, List.mem_of_getElem? h1, hk.1, hk.2, _, h3⟩
  · right
    refine ⟨fun e he hk => h1 e he ?_, h2⟩
    show (e.view, e.number) = (v, n)
    rw [hk.1, hk.2]

theorem at_ok {b ms mb : Nat} {x : Wn} {h r : Hp} (W : WinP b ms mb x h) (H : HasH σ (h ++ r)) (hN : 10 ≤ N) (v n : Int)
    (kbad : askE x.low v n ≠ 0 → ∀ σ', HasH σ' (h ++ r) → K (.tuple [.ptr none, .int .i64 (askE x.low v n)]) σ' = some ())
    (kold : askE x.low v n = 0 → ∀ e ∈ x.es, e.view = v → e.number = n → ∀ σ', HasH σ' (h ++ r) → K (.tuple [.ptr (some (e.s, 0)), .int .i64 0]) σ' = some ())
    (knew : askE x.low v n = 0 → (∀ e ∈ x.es, ¬ (e.view = v ∧ e.number = n)) → ∀ σ' s h' hs, SlotP s (newX x.g x.f (v.tmod (3 * x.f + 1))) hs →
      WinP b ms mb { x with es := x.es ++ [⟨v, n, s, x.c1⟩], c1 := x.c1 + 1 } h' → HasH σ' (h' ++ (hs ++ r)) → K (.tuple [.ptr (some (s, 0)), .int .i64 0]) σ' = some ()) :
    callK Try.prog N ann (d + 3) dem 17 [.ptr (some (b, 0)), .int .i64 v, .int .i64 n] σ K = some () := by
  have W' := W
  obtain ⟨ho, rfl⟩ := W
  have ho' := ho
  obtain ⟨g0, g4, f0, f3, l0, l1, ok1, ok2⟩ := ho
  rw [go 17 (by decide), f17_eq]
  simp only [go_sem, asked_ok W' H]
  by_cases ha : askE x.low v n = 0
  · have ha' : (askE x.low v n != 0) = false := by simp [ha]
    have v0 : 0 ≤ v := by
      by_cases h : 0 ≤ v
      · exact h
      · exfalso; unfold askE at ha; rw [if_pos (.inl (by omega))] at ha; cases ha
    have v1 : v ≤ 1099511627776 := by
      by_cases h : v ≤ 1099511627776
      · exact h
      · exfalso; unfold askE at ha; rw [if_pos (.inr (by omega))] at ha; cases ha
    have H1 := (H.new (.cells [.int .i64 v, .int .i64 n] true)).put (.cells [.int .i64 v, .int .i64 n] true)
    have H0 := (H.new (.cells [.int .i64 0, .int .i64 0] true)).put (.cells [.int .i64 v, .int .i64 n] true)
    have n0 : (b = σ.next) = False := eq_false (by have := H.l1; omega)
    have n1 : (ms = σ.next) = False := eq_false (by have := H.l2; omega)
    have hg : σ.get b = _ := H.g1
    have hm : σ.get ms = _ := H.g2
    rcases find_en x.es v n with ⟨e, he, e1, e2, i, hf⟩ | ⟨hno, hf⟩
    · simp only [go_sem, ha', hg, hm, n0, n1, hf]
      exact kold ha e he e1 e2 _ H0.tail
    · have w1 : IntKind.i64.wrap (3 * x.f) = 3 * x.f := wrap_small (by omega) (by omega)
      have w2 : IntKind.i64.wrap (3 * x.f + 1) = 3 * x.f + 1 := wrap_small (by omega) (by omega)
      have z : (3 * x.f + 1 = 0) = False := eq_false (by omega)
      have hp0 : 0 ≤ v.tmod (3 * x.f + 1) := Int.tmod_nonneg _ v0
      have hp1 : v.tmod (3 * x.f + 1) < 3 * x.f + 1 := Int.tmod_lt_of_pos _ (by omega)
      simp only [go_sem, ha', hg, hm, n0, n1, hf, w1, w2, z]
      refine snew_ok H0 hN x.g x.f _ ?_ ?_
      · unfold newE; rw [if_neg (by omega)]
      · intro σ' s hs S H2
        have H3 : HasH σ' ((b, Blk.cells [.int .i64 x.g, .int .i64 x.f, .int .i64 x.low, .map (some ms), .map (some mb)] true) :: (ms, .map (x.es.map En.av) x.c1) :: (σ.next, Blk.cells [.int .i64 v, .int .i64 n] true) :: (mb, .map (x.fs.map Bn.av) x.c2) :: (hs ++ r)) := by
          refine H2.perm ?_
          refine (List.perm_append_comm_assoc hs [_, _, _, _] r).trans ?_
          exact (List.Perm.swap _ _ _).trans ((List.Perm.swap _ _ _).cons _)
        have hg' : σ'.get b = _ := H3.g1
        have hm' : σ'.get ms = _ := H3.g2
        have hp' : σ'.get σ.next = _ := H3.g3
        have hset := EK.set_new (k := (v, n)) (es := x.es) (fun e he hk => hno e he (by simpa [EK] using hk)) (.agg [.int .i64 v, .int .i64 n]) (.ptr (some (s, 0))) x.c1
        have hset' : mapSet true [.int .i64, .int .i64] [.int .i64 v, .int .i64 n] (.agg [.int .i64 v, .int .i64 n]) (.ptr (some (s, 0))) (x.es.map En.av) x.c1 = some (x.es.map En.av ++ [(.agg [.int .i64 v, .int .i64 n], .ptr (some (s, 0)), x.c1)], x.c1 + 1) := hset
        simp only [go_sem, hg', hm', hp', keyArg_place, hset']
        refine knew ha hno _ s _ hs S ⟨⟨g0, g4, f0, f3, l0, l1, ?_, ok2⟩, rfl⟩ ?_
        · refine ok1.push rfl fun e he hk => hno e he ?_
          have hk' : (e.view, e.number) = (v, n) := hk
          simpa using hk'
        · have H4 := (H3.put2 (.map (x.es.map En.av ++ [(.agg [.int .i64 v, .int .i64 n], .ptr (some (s, 0)), x.c1)]) (x.c1 + 1))).drop3
          simp only [List.map_append, List.map_cons, List.map_nil]
          exact H4
  · have ha' : (askE x.low v n != 0) = true := by simp [ha]
    simp only [go_sem, ha']
    exact kbad ha _ H

theorem at_nil (v n : Int) (kont : K (.tuple [.ptr none, .int .i64 (if v < 0 ∨ 1099511627776 < v then 1 else 7)]) σ = some ()) :
    callK Try.prog N ann (d + 3) dem 17 [.ptr none, .int .i64 v, .int .i64 n] σ K = some () := by
  rw [go 17 (by decide), f17_eq]
  simp only [go_sem, asked_nil]
  have ha' : ((if v < 0 ∨ 1099511627776 < v then (1 : Int) else 7) != 0) = true := by split <;> rfl
  simp only [go_sem, ha']
  exact kont

end Go.Proofs.Ytmgacgonoodkfaa
