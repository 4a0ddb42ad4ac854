/- A window that is raised: the small case. -/
import Derived.Test.YtmgacgonoodkfaaW6
import Derived.Test.YtmgacgonoodkfaaWiMoves
namespace Go.Proofs.Ytmgacgonoodkfaa
open Go.AM
set_option maxRecDepth 100000
set_option linter.unusedSimpArgs false
set_option linter.unusedVariables false
variable {N d : Nat} {σ : St} {K : AV → St → Option Unit}

theorem moves_ok {r : Hp} (H : HasH σ r) (hN : 10 ≤ N) (kont : ∀ σ', HasH σ' r → K (.bool true) σ' = some ()) : callK Try.prog N ann (d + 4) true 15 [] σ K = some () := by
  rw [go 15 (by decide), f15_eq]
  simp only [go_sem]
  refine new_ok H 1 1 ?_ (fun h => absurd (by decide) h)
  intro σ1 b ms mb h1 _ W1 H1
  simp only [go_sem]
  refine at_ok W1 H1 hN 0 8 (fun h => absurd (by decide) h) (fun _ e he => absurd he (by simp)) ?_
  intro _ _ σ2 s2 h2 hs2 _ W2 H2
  simp only [go_sem]
  refine at_ok W2 H2 hN 0 9 ?_ (fun h => absurd (show askE 0 0 9 = 0 from h) (by decide)) (fun h => absurd (show askE 0 0 9 = 0 from h) (by decide))
  intro _ σ3 H3
  have e9 : askE 0 0 9 = 6 := by decide
  simp only [go_sem, e9]
  refine raise_ok W2 H3 (by simp; omega) (by simp; omega) 4 ?_
  intro σ4 h4 W4 H4
  have hr : raiseE 4 = 0 := by decide
  have hb : raiseB { g := 1, f := 1, low := 0, es := [] ++ [{ view := 0, number := 8, s := s2, born := 0 }], c1 := 0 + 1, fs := [], c2 := 0 } 4 = true := by simp [raiseB, hr]
  have hx : raiseX { g := 1, f := 1, low := 0, es := [] ++ [{ view := 0, number := 8, s := s2, born := 0 }], c1 := 0 + 1, fs := [], c2 := 0 } 4 = ⟨1, 1, 4, [⟨0, 8, s2, 0⟩], 1, [], 0⟩ := by unfold raiseX; rw [if_pos hb]; rfl
  rw [hx] at W4
  simp only [go_sem, hr, hb]
  refine at_ok W4 H4 hN 0 4 ?_ (fun h => absurd (show askE 4 0 4 = 0 from h) (by decide)) (fun h => absurd (show askE 4 0 4 = 0 from h) (by decide))
  intro _ σ5 H5
  have e4 : askE 4 0 4 = 6 := by decide
  simp only [go_sem, e4]
  refine at_ok W4 H5 hN 0 12 (fun h => absurd (show askE 4 0 12 = 0 by decide) h) ?_ ?_
  · intro _ e he e1 e2
    simp at he
    subst he
    simp at e2
  · intro _ _ σ6 s6 h6 hs6 _ W6 H6
    simp only [go_sem, low_ok W6 H6]
    exact kont _ H6.right.right.right

end Go.Proofs.Ytmgacgonoodkfaa

namespace Go.Proofs.Ytmgacgonoodkfaa
open Go.AM
set_option maxRecDepth 100000
set_option linter.unusedSimpArgs false
set_option linter.unusedVariables false

theorem filter_av (v : Int) (fs : List En) : ((fs.map En.av).filter fun x => decide (v ≤ viewOf x)) = (fs.filter fun e => decide (v ≤ e.view)).map En.av := by
  induction fs with
  | nil => rfl
  | cons a fs ih =>
    simp only [List.map_cons, List.filter_cons]
    have : viewOf a.av = a.view := rfl
    rw [this, ih]
    split <;> rfl

theorem win_sound (B : Nat) : SpecSound winSpec B Try.prog := by
  intro dem f args σ v σ' h
  have h' : (if f = 40 then (if dem = true then none else leaveSpec args σ) else none) = some (v, σ') := h
  split at h'
  · rename_i hf
    subst hf
    split at h'
    · cases h'
    · refine ⟨⟨Try.f40, Try.func40, by kernel_rfl, by kernel_rfl⟩, ?_⟩
      unfold leaveSpec at h'
      split at h'
      · rename_i b w
        split at h'
        · rename_i g f low ms mb hb
          split at h'
          · rename_i es c hm
            split at h'
            · rename_i hc
              obtain ⟨⟨fs, rfl, ok⟩, hlen, hml, hbl, hne⟩ := hc
              simp only [Option.some.injEq, Prod.mk.injEq] at h'
              obtain ⟨rfl, rfl⟩ := h'
              refine spec_of_run (by kernel_rfl) (N := 2000) (ann := ann) (d := 0 + 3) ?_
              intro live K hK
              refine leave_raw (S := nospec) (fun _ _ _ => rfl) ok (by simp at hlen; omega) (by simpa using hlen) w hb hm hbl hml hne ?_
              intro σ2 h1 h2 h3
              have e1 : (((fs.map En.av).length : Nat) : Int) - (((fs.map En.av).filter fun x => decide (w ≤ viewOf x)).length : Nat) = (fs.length : Int) - ((fs.filter fun e => decide (w ≤ e.view)).length : Nat) := by
                rw [filter_av]; simp
              rw [← e1]
              refine hK σ2 (by rw [h1]; simp) ?_
              intro i x hx hg
              have hg' : (σ.put ms (.map ((fs.map En.av).filter fun x => decide (w ≤ viewOf x)) c)).get i = some x := hg
              rw [St.get_put] at hg'
              split at hg'
              · rename_i he
                subst he
                rw [h3, ← filter_av]; exact hg'
              · rename_i hne2
                by_cases hi : i < σ.next
                · rw [h2 i hi (by simpa using hne2)]; exact hg'
                · exact absurd hg' (live i x (by omega) hx)
            · cases h'
          · cases h'
        · cases h'
      · cases h'
  · cases h'

end Go.Proofs.Ytmgacgonoodkfaa
