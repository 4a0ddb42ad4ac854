/- Every bag, step by step: the law's walk. -/
import Derived.Test.YtdebkakkeaanaaaBSt2
import Derived.Test.YtdebkakkeaanaaaBagSteps
namespace Go.Proofs.Ytdebkakkeaanaaa
open Go.AM
set_option maxRecDepth 100000
set_option linter.unusedSimpArgs false
set_option linter.unusedVariables false
variable {N d : Nat} {σ : St} {K : AV → St → Option Unit}

theorem places_add (L : List Item) (fr to : Int) (i a b : Nat) : places L fr to i (a + b) = places L fr to i a ++ places L fr to (i + a) b := by
  simp only [places]
  rw [← List.filter_append, List.range'_append_1]

theorem older_take (L : List Item) (t : Int) (j : Nat) (x : Item) (hx : L[j]? = some x) : older (L.take (j + 1)) t = older (L.take j) t + if x.since < t then 1 else 0 := by
  rw [List.take_add_one, hx]
  simp only [older, Option.toList_some, List.countP_append]
  congr 1
  by_cases h : x.since < t <;> simp [h]

section
variable {L : List Item} {sb : Nat} {s : Stp} {rr : Hp} {J : KF Unit} {mo : Int}

theorem s_loop2 (hL : L.length < 4096) {ow : Option (Nat × Nat)} {cw : Option Nat} {hw : Hp} (hV : Vec 4 (.slice ow L.length cw 4) L.length (flat L) hw) {P : List Nat} (hPe : P = places L s.x.fr s.x.to 0 L.length)
    {op : Option (Nat × Nat)} {cp : Option Nat} {hp : Hp} (hP : Vec 1 (.slice op P.length cp 1) P.length (ints P) hp)
    {y1 : Option (Nat × Nat)} {y2 xb yb : Nat} {e f : Int} {y13 : Option (Nat × Nat)} {y14 : Nat} {y15 : Option Nat} {y16 y17 : Int} :
    ∀ (m j n : Nat) (σ : St), m + j = L.length → m < n → HasH σ (hw ++ ((sb, .cells s.cells true) :: (hp ++ rr))) →
      (∀ σ', HasH σ' (hw ++ ((sb, .cells s.cells true) :: (hp ++ rr))) → J (.exit 2) (f6e32 mo y1 y2 xb e yb f (older L mo : Nat) (P.length : Nat) op P.length cp y13 y14 y15 y16 y17) σ' = some ()) →
      loopK (f6L54 (callK Try.prog N ann d) N) f6a54 n J
        (f6e30 mo y1 y2 sb xb e yb f (older (L.take j) mo : Nat) ((places L s.x.fr s.x.to 0 j).length : Nat) op P.length cp y13 y14 y15 y16 y17 ow L.length cw L.length j) σ = some () := by
  intro m
  induction m with
  | zero =>
    intro j n σ hm hn H k
    obtain ⟨n, rfl⟩ : ∃ n', n = n' + 1 := ⟨n - 1, by omega⟩
    have h1 : ((j:Int) < L.length) = False := eq_false (by omega)
    obtain rfl : j = L.length := by omega
    rw [loopK_succ]
    simp only [go_sem, h1]
    rw [List.take_of_length_le (Nat.le_refl _), ← hPe]
    exact k σ H
  | succ m ih =>
    intro j n σ hm hn H k
    obtain ⟨n, rfl⟩ : ∃ n', n = n' + 1 := ⟨n - 1, by omega⟩
    have h0 : ((0:Int) ≤ j) = True := eq_true (by omega)
    have h1 : ((j:Int) < L.length) = True := eq_true (by omega)
    have hti : ((j:Int)).toNat = j := by omega
    have hw1 : IntKind.i64.wrap ((j:Int) + 1) = (j:Int) + 1 := wrap_small (n := (j:Int) + 1) (by omega) (by omega)
    obtain ⟨x, hx⟩ : ∃ x, L[j]? = some x := ⟨_, List.getElem?_eq_getElem (by omega)⟩
    obtain ⟨-, bv, junk, rfl, rfl, -⟩ := hV.row (by omega)
    have hgv : σ.get bv = _ := H.g1
    have hbv : (bv = σ.next) = False := eq_false (by have := H.l1; omega)
    have hgs : σ.get sb = _ := H.g2
    have hsb : (sb = σ.next) = False := eq_false (by have := H.l2; omega)
    obtain ⟨q0, q1, q2, q3⟩ := flat_at hx junk
    have hol : older (L.take j) mo ≤ j := by
      have := List.countP_le_length (p := fun x : Item => decide (x.since < mo)) (l := L.take j)
      simp only [older]; rw [List.length_take] at this; omega
    have hpl : (places L s.x.fr s.x.to 0 j).length ≤ j := by
      have := List.length_filter_le (hit L s.x.fr s.x.to) (List.range' 0 j)
      simp only [places]; rw [List.length_range'] at this; exact this
    have hw2 : IntKind.i64.wrap ((older (L.take j) mo : Nat) + 1) = ((older (L.take j) mo + 1 : Nat) : Int) := wrap_small (n := ((older (L.take j) mo + 1 : Nat) : Int)) (by omega) (by omega)
    have hw3 : IntKind.i64.wrap (((places L s.x.fr s.x.to 0 j).length : Nat) + 1) = (((places L s.x.fr s.x.to 0 j).length + 1 : Nat) : Int) := wrap_small (n := (((places L s.x.fr s.x.to 0 j).length + 1 : Nat) : Int)) (by omega) (by omega)
    have hO := older_take L mo j x hx
    have hPs := places_add L s.x.fr s.x.to 0 j 1
    have hP2 : places L s.x.fr s.x.to 0 L.length = places L s.x.fr s.x.to 0 j ++ places L s.x.fr s.x.to (0 + j) (m + 1) := by rw [← places_add]; congr 1; omega
    have H2 := (H.new (.cells Item.zero.cells true)).put (.cells x.cells true)
    have nx : ∀ (o2 a2 : Nat), o2 = older (L.take (j + 1)) mo → a2 = (places L s.x.fr s.x.to 0 (j + 1)).length →
        loopK (f6L54 (callK Try.prog N ann d) N) f6a54 n J
          (f6e30 mo y1 y2 sb xb e yb f (o2 : Nat) (a2 : Nat) op P.length cp y13 y14 y15 y16 y17 (some (bv, 0)) L.length cw L.length ((j:Int) + 1)) ((σ.new (.cells Item.zero.cells true)).put σ.next (.cells x.cells true)) = some () := by
      rintro o2 a2 rfl rfl
      exact ih (j + 1) n _ (by omega) (by omega) H2.tail k
    simp only [Item.cells, Item.zero] at nx
    simp only [Stp.cells] at hgs
    have hhit : hit L s.x.fr s.x.to j = (x.fr == s.x.fr && x.to == s.x.to) := by simp only [hit, hx]
    have done : ∀ (o2 : Nat), o2 = older (L.take (j + 1)) mo → True := fun _ _ => trivial
    rw [loopK_succ]
    by_cases hf : x.fr = s.x.fr
    · have hf' : (x.fr == s.x.fr) = true := by simpa using hf
      by_cases ht : x.to = s.x.to
      · have ht' : (x.to == s.x.to) = true := by simpa using ht
        have hp1 : places L s.x.fr s.x.to (0 + j) 1 = [j] := by
          simp only [places, List.range'_succ, List.range'_zero, Nat.zero_add]; rw [List.filter_cons_of_pos (by rw [hhit, hf', ht']; rfl)]; rfl
        have hp3 : places L s.x.fr s.x.to (0 + j) (m + 1) = j :: places L s.x.fr s.x.to (0 + j + 1) m := by
          rw [Nat.add_comm m 1, places_add, hp1]; rfl
        rw [hp3] at hP2
        rw [← hPe] at hP2
        have hne : P ≠ [] := by rw [hP2]; simp
        obtain ⟨-, bp, junk2, rfl, rfl, -⟩ := hP.row (by simpa using hne)
        have hgp : σ.get bp = _ := H.g3
        have hbp : (bp = σ.next) = False := eq_false (by have := H.l3; omega)
        have hqp : (ints P ++ junk2)[(places L s.x.fr s.x.to 0 j).length]? = some (.int .i64 j) := by
          rw [hP2]; simp [ints]
        have hlt : (((places L s.x.fr s.x.to 0 j).length : Int) < (P.length : Int)) = True := eq_true (by rw [hP2]; simp; omega)
        have hge : ((P.length : Int) ≤ ((places L s.x.fr s.x.to 0 j).length : Int)) = False := eq_false (by rw [hP2]; simp; omega)
        have h00 : ((0:Int) ≤ ((places L s.x.fr s.x.to 0 j).length : Int)) = True := eq_true (by omega)
        have htn : (((places L s.x.fr s.x.to 0 j).length : Int)).toNat = (places L s.x.fr s.x.to 0 j).length := by omega
        by_cases hs : x.since < mo
        · simp only [go_sem, h1, h0, hgv, hti, hbv, hgs, hsb, q0, q1, q2, q3, hf', ht', hs, hgp, hbp, hqp, hlt, hge, h00, htn, Nat.mul_one, hw1, hw2, hw3]
          exact nx _ _ (by rw [hO, if_pos hs]) (by rw [hPs, hp1]; simp)
        · simp only [go_sem, h1, h0, hgv, hti, hbv, hgs, hsb, q0, q1, q2, q3, hf', ht', hs, hgp, hbp, hqp, hlt, hge, h00, htn, Nat.mul_one, hw1, hw2, hw3]
          exact nx _ _ (by rw [hO, if_neg hs]; rfl) (by rw [hPs, hp1]; simp)
      · have ht' : (x.to == s.x.to) = false := by simpa using ht
        have hp1 : places L s.x.fr s.x.to (0 + j) 1 = [] := by
          simp only [places, List.range'_succ, List.range'_zero, Nat.zero_add]; rw [List.filter_cons_of_neg (by rw [hhit, ht']; simp)]; rfl
        by_cases hs : x.since < mo
        · simp only [go_sem, h1, h0, hgv, hti, hbv, hgs, hsb, q0, q1, q2, q3, hf', ht', hs, hw1, hw2, hw3]
          exact nx _ _ (by rw [hO, if_pos hs]) (by rw [hPs, hp1]; simp)
        · simp only [go_sem, h1, h0, hgv, hti, hbv, hgs, hsb, q0, q1, q2, q3, hf', ht', hs, hw1, hw2, hw3]
          exact nx _ _ (by rw [hO, if_neg hs]; rfl) (by rw [hPs, hp1]; simp)
    · have hf' : (x.fr == s.x.fr) = false := by simpa using hf
      have hp1 : places L s.x.fr s.x.to (0 + j) 1 = [] := by
        simp only [places, List.range'_succ, List.range'_zero, Nat.zero_add]; rw [List.filter_cons_of_neg (by rw [hhit, hf']; simp)]; rfl
      by_cases hs : x.since < mo
      · simp only [go_sem, h1, h0, hgv, hti, hbv, hgs, hsb, q0, q1, q2, q3, hf', hs, hw1, hw2, hw3]
        exact nx _ _ (by rw [hO, if_pos hs]) (by rw [hPs, hp1]; simp)
      · simp only [go_sem, h1, h0, hgv, hti, hbv, hgs, hsb, q0, q1, q2, q3, hf', hs, hw1, hw2, hw3]
        exact nx _ _ (by rw [hO, if_neg hs]; rfl) (by rw [hPs, hp1]; simp)

end
end Go.Proofs.Ytdebkakkeaanaaa
