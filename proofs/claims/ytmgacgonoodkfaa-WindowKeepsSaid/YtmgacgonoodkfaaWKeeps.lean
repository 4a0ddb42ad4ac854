/- A slot is the same one as long as it is there: the law's walk. -/
import Derived.Test.YtmgacgonoodkfaaW8
import Derived.Test.YtmgacgonoodkfaaWiKeeps
import Derived.Test.YtmgacgonoodkfaaWiRef
namespace Go.Proofs.Ytmgacgonoodkfaa
open Go.AM
set_option maxRecDepth 100000
set_option linter.unusedSimpArgs false
set_option linter.unusedVariables false
variable {N d : Nat} {dem : Bool} {σ : St} {K : AV → St → Option Unit}

def rightB (g f : Int) : Bool := decide (0 ≤ g ∧ g ≤ 4 ∧ 0 ≤ f ∧ f ≤ 3)
theorem right_eq (g f : Int) : callK Try.prog N ann (d + 1) dem 35 [.int .i64 g, .int .i64 f] σ K = K (.bool (rightB g f)) σ := by
  rw [go 35 (by decide), f35_eq]
  by_cases c1 : 0 ≤ g
  · by_cases c2 : g ≤ 4
    · by_cases c3 : 0 ≤ f
      · by_cases c4 : f ≤ 3
        · have : rightB g f = true := by simp [rightB, c1, c2, c3, c4]
          simp only [go_sem, c1, c2, c3, c4, this]
        · have : rightB g f = false := by simp [rightB, c1, c2, c3, c4]
          simp only [go_sem, c1, c2, c3, c4, this]
      · have : rightB g f = false := by simp [rightB, c1, c2, c3]
        simp only [go_sem, c1, c2, c3, this]
    · have : rightB g f = false := by simp [rightB, c1, c2]
      simp only [go_sem, c1, c2, this]
  · have : rightB g f = false := by simp [rightB, c1]
    simp only [go_sem, c1, this]

def aT : ByteArray := ByteArray.mk #[97]
def tgT : ByteArray := ByteArray.mk #[48, 49, 50, 51, 52, 53, 54, 55, 56, 57, 97, 98, 99, 100, 101, 102]

theorem zero_at (g f p k no : Int) : (newX g f p).at k no = Vt.zero := by
  unfold Slt.at
  split
  · have : ∀ i : Nat, (((newX g f p).vs k)[i]?).getD Vt.zero = Vt.zero := by
      intro i
      unfold Slt.vs newX
      split
      · simp only [List.getElem?_replicate]; split <;> rfl
      · split
        · simp only [List.getElem?_replicate]; split <;> rfl
        · rfl
    exact this _
  · rfl

theorem zero_cnt (g f p k : Int) : (newX g f p).cnt k = 0 := by
  unfold Slt.cnt Slt.vs newX
  rw [List.countP_eq_zero]
  intro v hv
  split at hv
  · rw [List.mem_replicate] at hv; rw [hv.2]; simp [Vt.zero]
  · split at hv
    · rw [List.mem_replicate] at hv; rw [hv.2]; simp [Vt.zero]
    · simp at hv

/-- The one vote that is told. -/
theorem first_vote {f p : Int} (h0 : 0 ≤ p) (h1 : p ≤ 3 * f) :
    voteF (newX 1 f p) 1 p aT tgT = 0 ∧ voteC (newX 1 f p) 1 p aT tgT = true ∧ (voteX (newX 1 f p) 1 p aT tgT).p = p ∧
      ((voteX (newX 1 f p) 1 p aT tgT).at 1 p) = ⟨true, aT, tgT⟩ ∧ (voteX (newX 1 f p) 1 p aT tgT).cnt 1 = 1 := by
  have hk : kindB 1 = true := by decide
  have hF : voteF (newX 1 f p) 1 p aT tgT = 0 := by
    unfold voteF
    rw [if_neg, if_neg, if_neg]
    · decide
    · decide
    · rw [hk]
      have : (newX 1 f p).f = f := rfl
      rw [this]
      simp; omega
  have hC : voteC (newX 1 f p) 1 p aT tgT = true := by
    unfold voteC
    rw [hF, zero_at]; rfl
  have hX : voteX (newX 1 f p) 1 p aT tgT = { newX 1 f p with V1 := (List.replicate (3 * f + 1).toNat Vt.zero).set p.toNat ⟨true, aT, tgT⟩ } := by
    unfold voteX Slt.put
    rw [if_pos hC, if_pos rfl]; rfl
  refine ⟨hF, hC, by rw [hX]; rfl, ?_, ?_⟩
  · rw [hX]
    unfold Slt.at Slt.vs
    rw [if_pos h0, if_pos rfl, List.getElem?_set_self (by simp; omega)]
    rfl
  · rw [hX]
    unfold Slt.cnt Slt.vs
    rw [if_pos rfl]
    have : ∀ (n i : Nat), i < n → ((List.replicate n Vt.zero).set i ⟨true, aT, tgT⟩).countP Vt.there = 1 := by
      intro n
      induction n with
      | zero => intro i h; omega
      | succ n ih =>
        intro i h
        cases i with
        | zero =>
          simp only [List.replicate_succ, List.set_cons_zero, List.countP_cons]
          have : (List.replicate n Vt.zero).countP Vt.there = 0 := by
            rw [List.countP_eq_zero]
            intro v hv
            rw [List.mem_replicate] at hv; rw [hv.2]; simp [Vt.zero]
          rw [this]; rfl
        | succ i =>
          simp only [List.replicate_succ, List.set_cons_succ, List.countP_cons]
          rw [ih i (by omega)]; rfl
    exact this _ _ (by omega)

theorem keeps_law (H : HasH σ []) (hN : 100 ≤ N) {f view number : Int} (k : ∀ σ', HasH σ' [] → K (.bool true) σ' = some ()) :
    callK Try.prog N ann (d + 5) true 12 [.int .i64 f, .int .i64 view, .int .i64 number] σ K = some () := by
  have any : ∀ {σ' : St} {h : Hp}, HasH σ' h → HasH σ' [] := fun H => H.sub (List.nil_sublist _)
  rw [go 12 (by decide), f12_eq]
  simp only [go_sem]
  refine new_ok H 1 f ?_ ?_
  · intro σ1 b ms mb h1 hgf W1 H1
    have hright : rightB 1 f = true := by simp [rightB]; omega
    simp only [go_sem]
    have hE : ¬ (view < 0 ∨ 1099511627776 < view) → 0 < number → number ≤ 8 → askE 0 view number = 0 := by
      intro a b c
      have hb : hasB 0 number = true := by simp [hasB, b]; omega
      unfold askE
      rw [if_neg a, if_pos hb]
    refine at_ok W1 H1 (by omega) view number ?_ (fun _ e he => absurd he (by simp)) ?_
    · intro ha σ2 H2
      have ha1 : (askE 0 view number != 0) = true := by simpa using ha
      have ha2 : askE 0 view number ≠ 0 := ha
      by_cases c1 : view < 0
      · simp only [go_sem, ha1, c1]
        refine moves_ok H2 (by omega) ?_
        intro σ3 H3
        simp only [go_sem]
        exact k _ (any H3)
      by_cases c2 : 1099511627776 < view
      · simp only [go_sem, ha1, c1, c2]
        refine moves_ok H2 (by omega) ?_
        intro σ3 H3
        simp only [go_sem]
        exact k _ (any H3)
      by_cases c3 : number < 1
      · simp only [go_sem, ha1, c1, c2, c3]
        refine moves_ok H2 (by omega) ?_
        intro σ3 H3
        simp only [go_sem]
        exact k _ (any H3)
      by_cases c4 : 8 < number
      · simp only [go_sem, ha1, c1, c2, c3, c4]
        refine moves_ok H2 (by omega) ?_
        intro σ3 H3
        simp only [go_sem]
        exact k _ (any H3)
      exact absurd (hE (by omega) (by omega) (by omega)) ha2
    · intro ha _ σ2 s h2 hs S2 W2 H2
      have ha0 : askE 0 view number = 0 := ha
      have v0 : 0 ≤ view := by
        by_cases h : 0 ≤ view
        · exact h
        · exfalso; unfold askE at ha0; rw [if_pos (.inl (by omega))] at ha0; cases ha0
      have v1 : view ≤ 1099511627776 := by
        by_cases h : view ≤ 1099511627776
        · exact h
        · exfalso; unfold askE at ha0; rw [if_pos (.inr (by omega))] at ha0; cases ha0
      have p0 : 0 ≤ view.tmod (3 * f + 1) := Int.tmod_nonneg _ v0
      have p1 : view.tmod (3 * f + 1) < 3 * f + 1 := Int.tmod_lt_of_pos _ (by omega)
      have w1 : IntKind.i64.wrap (3 * f) = 3 * f := wrap_small (by omega) (by omega)
      have w2 : IntKind.i64.wrap (3 * f + 1) = 3 * f + 1 := wrap_small (by omega) (by omega)
      have z : (3 * f + 1 = 0) = False := eq_false (by omega)
      obtain ⟨hF, hC, hp, hat, hct⟩ := first_vote (f := f) (p := view.tmod (3 * f + 1)) p0 (by omega)
      simp only [go_sem, w1, w2, z]
      refine vote_ok S2 H2.mid 1 (view.tmod (3 * f + 1)) aT tgT ?_
      intro σ3 hs3 S3 H3
      simp only [go_sem, hC, hF]
      have hes : ([] ++ [({ view := view, number := number, s := s, born := 0 } : En)]) = [⟨view, number, s, 0⟩] := rfl
      refine at_ok W2 H3.mid (by omega) view number (fun h => absurd ha0 h) ?_ ?_
      · intro _ e he e1 e2 σ4 H4
        have hes2 : e.s = s := by simp at he; rw [he]
        rw [hes2]
        simp only [go_sem]
        refine proposal_ok S3 H4.mid ?_
        intro σ5 H5
        have hat' : (voteX (newX 1 f (view.tmod (3 * f + 1))) 1 (view.tmod (3 * f + 1)) aT tgT).at 1 (voteX (newX 1 f (view.tmod (3 * f + 1))) 1 (view.tmod (3 * f + 1)) aT tgT).p = ⟨true, aT, tgT⟩ := by rw [hp]; exact hat
        rw [hat']
        simp only [go_sem]
        refine leave_ok W2 H5.mid (by simp; omega) (by simp) view ?_
        intro σ6 h6 W6 H6
        have hx6 : leaveX { g := 1, f := f, low := 0, es := [] ++ [{ view := view, number := number, s := s, born := 0 }], c1 := 0 + 1, fs := [], c2 := 0 } view = ⟨1, f, 0, [⟨view, number, s, 0⟩], 1, [], 0⟩ := by simp [leaveX]
        rw [hx6] at W6
        simp only [go_sem]
        refine at_ok W6 H6 (by omega) view number (fun h => absurd ha0 h) ?_ ?_
        · intro _ e he e1 e2 σ7 H7
          have hes2 : e.s = s := by simp at he; rw [he]
          rw [hes2]
          simp only [go_sem]
          refine votes_ok S3 H7.mid (by omega) 1 ?_
          intro σ8 H8
          have hct' : (((voteX (newX 1 f (view.tmod (3 * f + 1))) 1 (view.tmod (3 * f + 1)) aT tgT).cnt 1 : Nat) : Int) = 1 := by rw [hct]; rfl
          by_cases c : view < 1099511627776
          · have w3 : IntKind.i64.wrap (view + 1) = view + 1 := wrap_small (by omega) (by omega)
            simp only [go_sem, hct', c, w3]
            refine leave_ok W6 H8.mid (by simp; omega) (by simp) (view + 1) ?_
            intro σ9 h9 W9 H9
            have hx9 : leaveX ⟨1, f, 0, [⟨view, number, s, 0⟩], 1, [], 0⟩ (view + 1) = ⟨1, f, 0, [], 1, [], 0⟩ := by simp [leaveX]; omega
            rw [hx9] at W9 ⊢
            simp only [go_sem]
            refine at_ok W9 H9 (by omega) view number (fun h => absurd ha0 h) (fun _ e he => absurd he (by simp)) ?_
            intro _ _ σ10 s10 h10 hs10 S10 W10 H10
            have q1 : ((1 : Nat) : Int) - ((0 : Nat) : Int) = 1 := rfl
            simp only [go_sem, q1, c]
            refine votes_ok S10 H10.mid (by omega) 1 ?_
            intro σ11 H11
            rw [zero_cnt]
            have q0 : ((0 : Nat) : Int) = 0 := rfl
            have eT : (aT = ByteArray.mk #[(97 : UInt8)]) = True := eq_true rfl
            simp only [go_sem, q0, eT]
            refine moves_ok H11 (by omega) ?_
            intro σ12 H12
            simp only [go_sem]
            exact k _ (any H12)
          · simp only [go_sem, hct', c]
            refine at_ok W6 H8.mid (by omega) view number (fun h => absurd ha0 h) ?_ ?_
            · intro _ e he e1 e2 σ9 H9
              simp only [go_sem, c]
              have eT : (aT = ByteArray.mk #[(97 : UInt8)]) = True := eq_true rfl
              simp only [go_sem, eT]
              refine moves_ok H9 (by omega) ?_
              intro σ12 H12
              simp only [go_sem]
              exact k _ (any H12)
            · intro _ hno
              exact absurd ⟨rfl, rfl⟩ (hno ⟨view, number, s, 0⟩ (by simp))
        · intro _ hno
          exact absurd ⟨rfl, rfl⟩ (hno ⟨view, number, s, 0⟩ (by simp))
      · intro _ hno
        exact absurd ⟨rfl, rfl⟩ (hno ⟨view, number, s, 0⟩ (by simp))
  · intro hbad
    have hright : rightB 1 f = false := by simp [rightB]; omega
    simp only [go_sem, right_eq, hright]
    refine moves_ok H (by omega) ?_
    intro σ3 H3
    simp only [go_sem]
    exact k _ H3

end Go.Proofs.Ytmgacgonoodkfaa
