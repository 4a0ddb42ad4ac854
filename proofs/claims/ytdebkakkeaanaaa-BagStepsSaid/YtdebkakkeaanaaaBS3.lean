/- What the bag's functions do: copies, places, ages. -/
import Derived.Test.YtdebkakkeaanaaaBS2
namespace Go.Proofs.Ytdebkakkeaanaaa
open Go.AM
set_option maxRecDepth 100000
set_option linter.unusedSimpArgs false
variable {N d : Nat} {σ : St} {K : AV → St → Option Unit}

theorem new_ok {r : Hp} (H : HasH σ r) (k : ∀ σ' b h, BagP b [] 0 h → HasH σ' (h ++ r) → K (.ptr (some (b, 0))) σ' = some ()) :
    callK Try.prog N ann (d + 1) 8 [] σ K = some () := by
  rw [callK_succ, f8_eq]
  simp only [go_sem]
  exact k _ _ _ ⟨_, _, rfl, Vec.nil 4⟩ (H.new _)

def copyE (L : List Item) (i : Int) : Int := if inR L i then putE L (seeX L i) else 6
def copyL (L : List Item) (i : Int) : List Item := if inR L i then putL L (seeX L i) else L
def copyD (L : List Item) (i : Int) (D : Int) : Int := if inR L i then putD L (seeX L i) D else D

theorem copy_ok {b : Nat} {L : List Item} {D : Int} {h r : Hp} (hB : BagP b L D h) (H : HasH σ (h ++ r)) (hD : 0 ≤ D ∧ D < 1000000) (hL : L.length ≤ 4096) (i : Int)
    (k : ∀ σ' h', BagP b (copyL L i) (copyD L i D) h' → HasH σ' (h' ++ r) → K (.int .i64 (copyE L i)) σ' = some ()) :
    callK Try.prog N ann (d + 3) 14 [.ptr (some (b, 0)), .int .i64 i] σ K = some () := by
  rw [callK_succ, f14_eq]
  simp only [go_sem]
  refine see_ok hB H i ?_
  intro σ1 H1
  by_cases hr : inR L i
  · have e : seeE L i = 0 := by simp only [seeE, hr, if_true]
    simp only [copyL, copyD, copyE, hr, if_true] at k
    simp only [Item.cells, go_sem, e]
    refine put_ok (x := seeX L i) hB (((H1.new _).put _).tail) hD hL ?_
    intro σ2 h2 hB2 H2
    simp only [go_sem]
    exact k _ _ hB2 H2
  · have e : seeE L i = 6 := by simp only [seeE, hr, if_false]
    simp only [copyL, copyD, copyE, hr, if_false] at k
    simp only [Item.cells, go_sem, e]
    exact k _ _ hB (((H1.new _).put _).tail)

end Go.Proofs.Ytdebkakkeaanaaa
