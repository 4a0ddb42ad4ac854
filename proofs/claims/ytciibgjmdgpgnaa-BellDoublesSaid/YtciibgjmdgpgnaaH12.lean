/- The closed small case. -/
import Derived.Test.YtciibgjmdgpgnaaH11
namespace Go.Proofs.Ytciibgjmdgpgnaa
open Go.AM
set_option maxRecDepth 100000
set_option linter.unusedSimpArgs false
set_option linter.unusedVariables false
variable {N d : Nat} {dem : Bool} {σ : St} {K : AV → St → Option Unit}

def D3 : List Int := [-1, 5, 4, 5, -1, -1, -1, -1, -1, -1, -1, -1, -1, -1, -1, -1]
theorem three_rings : TickD 5 D3 [2, 1, 3] (List.replicate 16 (-1)) :=
  TickD.step (k := 2) (by decide) (by decide) (by decide) (by decide)
    (TickD.step (k := 1) (by decide) (by decide) (by decide) (by decide)
      (TickD.step (k := 3) (by decide) (by decide) (by decide) (by decide)
        (TickD.stop (by decide))))

theorem three_ok {r : Hp} (H : HasH σ r) (hN : 10 < N) (kont : ∀ σ', HasH σ' r → K (.bool true) σ' = some ()) : callK Try.prog N ann (d + 6) dem 8 [] σ K = some () := by
  rw [go 8, f8_eq]
  simp only [go_sem, new_eq]
  refine set_ok (d := d + 1) (L := []) (V := V0) (hv := []) (r := r) (now := 0) (turn := 0) BI0 (by simp) (by simp; omega) (by omega) (by decide) (Vec.nil 4) (H.new _) (by decide) ?_
  intro σ1 o1 c1 hv1 L1 t1 l1 I1 W1 H1
  simp only [go_sem]
  refine set_ok (d := d + 1) I1 (by rw [l1]; simp) (by rw [l1]; simp; omega) (by omega) (by decide) W1 H1 (by decide) ?_
  intro σ2 o2 c2 hv2 L2 t2 l2 I2 W2 H2
  simp only [go_sem]
  refine set_ok (d := d + 1) I2 (by rw [l2, l1]; simp) (by rw [l2, l1]; simp; omega) (by omega) (by decide) W2 H2 (by decide) ?_
  intro σ3 o3 c3 hv3 L3 t3 l3 I3 W3 H3
  simp only [go_sem]
  refine tick_ok (d := d) I3 (by rw [l3, l2, l1]; simp) (by rw [l3, l2, l1]; simp; omega) (by omega) W3 H3 (by decide) (by decide) ?_
  intro σ4 o4 c4 hv4 V4 L4 ms oo cc vv l4 I4 T4 _ W4 WW H4
  simp only [go_sem]
  have hd : dues (((V0.set (3:Int).toNat ⟨3, 0 + 5, 5, t1⟩).set (1:Int).toNat ⟨1, 0 + 5, 5, t2⟩).set (2:Int).toNat ⟨2, 0 + 4, 4, t3⟩) = D3 := by
    rw [dues_set, dues_set, dues_set]; rfl
  rw [hd] at T4
  obtain ⟨rfl, _⟩ := three_rings.det T4
  have H5 := H4.new (.cells [.int .i64 2, .int .i64 1, .int .i64 3] true)
  have iaA : IA (σ4.new (.cells [.int .i64 2, .int .i64 1, .int .i64 3] true)) oo [2, 1, 3] := IA.of WW (H5.tail.perm (perm1 _ _ _ _))
  have iaB : IA (σ4.new (.cells [.int .i64 2, .int .i64 1, .int .i64 3] true)) (some (σ4.next, 0)) [2, 1, 3] := by
    refine Or.inr ⟨_, _, _, rfl, H5.g1, ?_⟩
    intro i x hx
    match i with
    | 0 => simpa using hx
    | 1 => simpa using hx
    | 2 => simpa using hx
    | i + 3 => simp at hx
  refine ints_ok (xs := [2, 1, 3]) (ys := [2, 1, 3]) iaA iaB (by simp) (by simp; omega) ?_
  have e1 : decide (([2, 1, 3] : List Int) = [2, 1, 3]) = true := by decide
  simp only [go_sem, e1]
  have hb := H5.tail.g1
  rw [now_eq hb]
  have e2 : (((0:Int) + 5) == 5) = true := by decide
  simp only [go_sem, e2]
  refine kont _ ?_
  have H6 := H5.tail.tail
  rw [← List.append_assoc] at H6
  exact H6.sub (List.sublist_append_right _ _)

end Go.Proofs.Ytciibgjmdgpgnaa
