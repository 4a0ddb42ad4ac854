/- What is known of Leave is right. -/
import Derived.Test.YtmgacgonoodkfaaW7
namespace Go.Proofs.Ytmgacgonoodkfaa
open Go.AM
set_option maxRecDepth 100000
set_option linter.unusedSimpArgs false
set_option linter.unusedVariables false

theorem filter_av (v : Int) (fs : List En) : ((fs.map En.av).filter fun x => decide (v ≤ viewOf x)) = (fs.filter fun e => decide (v ≤ e.view)).map En.av := by
  induction fs with
  | nil => rfl
  | cons a fs ih =>
    simp only [List.map_cons, List.filter_cons]
    have : viewOf a.av = a.view := rfl
    rw [this, ih]
    split <;> rfl

theorem win_sound (B : Nat) : SpecSound winSpec B Try.prog := by
  intro dem f args σ v σ' h
  have h' : (if f = 40 then (if dem = true then none else leaveSpec args σ) else none) = some (v, σ') := h
  split at h'
  · rename_i hf
    subst hf
    split at h'
    · cases h'
    · refine ⟨⟨Try.f40, Try.func40, by kernel_rfl, by kernel_rfl⟩, ?_⟩
      unfold leaveSpec at h'
      split at h'
      · rename_i b w
        split at h'
        · rename_i g f low ms mb hb
          split at h'
          · rename_i es c hm
            split at h'
            · rename_i hc
              obtain ⟨⟨fs, rfl, ok⟩, hlen, hml, hbl, hne⟩ := hc
              simp only [Option.some.injEq, Prod.mk.injEq] at h'
              obtain ⟨rfl, rfl⟩ := h'
              refine spec_of_run (by kernel_rfl) (N := 2000) (ann := ann) (d := 0 + 3) ?_
              intro live K hK
              refine leave_raw (S := nospec) (fun _ _ _ => rfl) ok (by simp at hlen; omega) (by simpa using hlen) w hb hm hbl hml hne ?_
              intro σ2 h1 h2 h3
              have e1 : (((fs.map En.av).length : Nat) : Int) - (((fs.map En.av).filter fun x => decide (w ≤ viewOf x)).length : Nat) = (fs.length : Int) - ((fs.filter fun e => decide (w ≤ e.view)).length : Nat) := by
                rw [filter_av]; simp
              rw [← e1]
              refine hK σ2 (by rw [h1]; simp) ?_
              intro i x hx hg
              have hg' : (σ.put ms (.map ((fs.map En.av).filter fun x => decide (w ≤ viewOf x)) c)).get i = some x := hg
              rw [St.get_put] at hg'
              split at hg'
              · rename_i he
                subst he
                rw [h3, ← filter_av]; exact hg'
              · rename_i hne2
                by_cases hi : i < σ.next
                · rw [h2 i hi (by simpa using hne2)]; exact hg'
                · exact absurd hg' (live i x (by omega) hx)
            · cases h'
          · cases h'
        · cases h'
      · cases h'
  · cases h'

end Go.Proofs.Ytmgacgonoodkfaa
