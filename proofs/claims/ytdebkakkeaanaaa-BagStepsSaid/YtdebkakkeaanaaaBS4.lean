/- The small case that each law of the bag asks; and the bag that is full. -/
import Derived.Test.YtdebkakkeaanaaaBS3
import Derived.Test.YtdebkakkeaanaaaBagThree
namespace Go.Proofs.Ytdebkakkeaanaaa
open Go.AM
set_option maxRecDepth 100000
set_option linter.unusedSimpArgs false
variable {N d : Nat} {σ : St} {K : AV → St → Option Unit}

abbrev ia : Item := ⟨0, 0, 0, ByteArray.mk #[97]⟩
abbrev ib : Item := ⟨0, 0, 0, ByteArray.mk #[98]⟩
abbrev ic : Item := ⟨0, 0, 0, ByteArray.mk #[99]⟩

theorem ba_eq {l m : List UInt8} (h : decide (l = m) = false) : decide (ByteArray.mk ⟨l⟩ = ByteArray.mk ⟨m⟩) = false := by
  simp at h ⊢
  exact h

theorem three_ok {r : Hp} (H : HasH σ r) (k : ∀ σ', HasH σ' r → K (.bool true) σ' = some ()) :
    callK Try.prog N ann (d + 4) 9 [] σ K = some () := by
  have a1 : putE [] ia = 0 := by decide
  have a2 : putL [] ia = [ia] := by rw [putL, a1]; rfl
  have a3 : putD [] ia 0 = 0 := by rw [putD, a1]; rfl
  have b1 : putE [ia] ib = 0 := by decide
  have b2 : putL [ia] ib = [ia, ib] := by rw [putL, b1]; rfl
  have b3 : putD [ia] ib 0 = 0 := by rw [putD, b1]; rfl
  have c1 : putE [ia, ib] ic = 0 := by decide
  have c2 : putL [ia, ib] ic = [ia, ib, ic] := by rw [putL, c1]; rfl
  have c3 : putD [ia, ib] ic 0 = 0 := by rw [putD, c1]; rfl
  have p1 : pickL [ia, ib, ic] 1 = [ia, ic] := rfl
  have p2 : seeE [ia, ib, ic] 1 = 0 := rfl
  have p3 : seeX [ia, ib, ic] 1 = ib := rfl
  have q0 : putE [ia, ic] ia = 0 := by decide
  have q1 : copyE [ia, ic] 0 = 0 := q0
  have q2 : copyL [ia, ic] 0 = [ia, ic, ia] := by show putL [ia, ic] ia = _; rw [putL, q0]; rfl
  have q3 : copyD [ia, ic] 0 0 = 0 := by show putD [ia, ic] ia 0 = _; rw [putD, q0]; rfl
  have s2 : seeE [ia, ic, ia] 2 = 0 := rfl
  have s3 : seeX [ia, ic, ia] 2 = ia := rfl
  rw [callK_succ, f9_eq]
  simp only [go_sem]
  refine new_ok H ?_
  intro σ1 b h1 hB1 H1
  simp only [go_sem]
  refine put_ok (x := ia) hB1 H1 (by decide) (by decide) ?_
  rw [a1, a2, a3]
  intro σ2 h2 hB2 H2
  simp only [go_sem]
  refine put_ok (x := ib) hB2 H2 (by decide) (by decide) ?_
  rw [b1, b2, b3]
  intro σ3 h3 hB3 H3
  simp only [go_sem]
  refine put_ok (x := ic) hB3 H3 (by decide) (by decide) ?_
  rw [c1, c2, c3]
  intro σ4 h4 hB4 H4
  simp only [go_sem]
  refine pick_ok hB4 H4 (by decide) 1 ?_
  rw [p1, p2, p3]
  intro σ5 h5 hB5 H5
  simp only [go_sem, Item.cells]
  refine copy_ok hB5 (((H5.new _).put _).down) (by decide) (by decide) 0 ?_
  rw [q1, q2, q3]
  intro σ6 h6 hB6 H6
  simp only [go_sem]
  refine see_ok hB6 H6 2 ?_
  rw [s2, s3]
  intro σ7 H7
  have H8 := ((H7.new (.cells Item.zero.cells true)).put (.cells ia.cells true))
  have g5 : ((σ7.new (.cells Item.zero.cells true)).put σ7.next (.cells ia.cells true)).get σ5.next = _ := H8.tail.up.g1
  have hlt : σ5.next < σ7.next := H7.up.l1
  have hne : (σ5.next = σ7.next) = False := eq_false (by omega)
  obtain ⟨v, hs, rfl, hv⟩ := hB6
  obtain ⟨o, c, rfl⟩ := hv.sl
  have hg : σ7.get b = _ := H7.g1
  have hlt : b < σ7.next := H7.l1
  have hne2 : (b = σ7.next) = False := eq_false (by omega)
  have hg8 : ((σ7.new (.cells Item.zero.cells true)).put σ7.next (.cells ia.cells true)).get b = some (.cells [.slice o 3 c 4, .int .i64 0] true) := by
    simp only [go_sem, hne2, hg]
  simp only [Item.cells, Item.zero] at hg8 g5
  simp only [go_sem, Item.cells, g5, len_eq hg8, hne]
  rw [show (((3 : Nat) : Int) == 3) = true from rfl]
  exact k _ (H8.tail.up.tail.right)

end Go.Proofs.Ytdebkakkeaanaaa
