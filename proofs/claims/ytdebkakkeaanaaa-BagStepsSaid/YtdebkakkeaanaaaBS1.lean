/- What the bag's functions do. -/
import Derived.Test.YtdebkakkeaanaaaA29
import Derived.Test.YtdebkakkeaanaaaBagCore
namespace Go.Proofs.Ytdebkakkeaanaaa
open Go.AM
set_option maxRecDepth 100000
set_option linter.unusedSimpArgs false
variable {N d : Nat} {σ : St} {K : AV → St → Option Unit}

structure Item where
  fr : Int
  to : Int
  since : Int
  text : ByteArray

def Item.cells (x : Item) : List AV := [.int .i64 x.fr, .int .i64 x.to, .int .i64 x.since, .str x.text]
def flat (L : List Item) : List AV := L.flatMap Item.cells

def BagP (b : Nat) (L : List Item) (D : Int) (h : Hp) : Prop := ∃ v hs, h = (b, .cells [v, .int .i64 D] true) :: hs ∧ Vec 4 v L.length (flat L) hs

def endB (n : Int) : Bool := decide (0 ≤ n ∧ n ≤ 63)

theorem wrap_small {n : Int} (h1 : -9223372036854775808 ≤ n) (h2 : n ≤ 9223372036854775807) : IntKind.i64.wrap n = n := by
  rw [IntKind.wrap_i64]; omega

theorem end_eq (n : Int) : callK Try.prog N ann (d + 1) 21 [.int .i64 n] σ K = K (.bool (endB n)) σ := by
  rw [callK_succ, f21_eq]
  unfold endB
  by_cases h1 : (0:Int) ≤ n <;> by_cases h2 : n ≤ 63 <;> simp only [go_sem, h1, h2, ge_iff_le, decide_true, decide_false, and_self, and_true, true_and, and_false, false_and]

/-- The error of Put: 5.1. -/
def putE (L : List Item) (x : Item) : Int :=
  if endB x.fr = false ∨ endB x.to = false ∨ x.since < 0 then 1 else if x.text.size > 1048576 then 2 else if L.length = 4096 then 5 else 0
def putL (L : List Item) (x : Item) : List Item := if putE L x = 0 then L ++ [x] else L
def putD (L : List Item) (x : Item) (D : Int) : Int := if putE L x = 5 then D + 1 else D

theorem put_ok {b : Nat} {L : List Item} {D : Int} {h r : Hp} (hB : BagP b L D h) (H : HasH σ (h ++ r)) (hD : 0 ≤ D ∧ D < 1000000) (hL : L.length ≤ 4096) (x : Item)
    (k : ∀ σ' h', BagP b (putL L x) (putD L x D) h' → HasH σ' (h' ++ r) → K (.int .i64 (putE L x)) σ' = some ()) :
    callK Try.prog N ann (d + 2) 10 [.ptr (some (b, 0)), .agg x.cells] σ K = some () := by
  obtain ⟨v, hs, rfl, hv⟩ := hB
  obtain ⟨o, c, rfl⟩ := hv.sl
  have hb := H.l1
  have hbn : (b = σ.next) = False := eq_false (by omega)
  have hg : σ.get b = _ := H.g1
  rw [callK_succ, Item.cells, f10_eq]
  have back : ∀ e : Int, e ≠ 0 → e ≠ 5 → putE L x = e → K (.int .i64 e) (σ.new (.cells [.int .i64 x.fr, .int .i64 x.to, .int .i64 x.since, .str x.text] true)) = some () := by
    intro e e0 e5 he
    have := k (σ.new (.cells [.int .i64 x.fr, .int .i64 x.to, .int .i64 x.since, .str x.text] true)) ((b, .cells [.slice o L.length c 4, .int .i64 D] true) :: hs)
      ⟨.slice o L.length c 4, hs, by simp only [putD, he, e5, if_false], by simpa only [putL, he, e0, if_false] using hv⟩ (H.new' _)
    rwa [he] at this
  by_cases c1 : endB x.fr = false
  · have e : putE L x = 1 := by simp only [putE, c1, true_or, if_true]
    simp only [go_sem, end_eq, c1, Bool.not_false]
    exact back 1 (by decide) (by decide) e
  have c1' : endB x.fr = true := by simpa using c1
  by_cases c2 : endB x.to = false
  · have e : putE L x = 1 := by simp only [putE, c2, true_or, or_true, if_true]
    simp only [go_sem, end_eq, c1', c2, Bool.not_false, Bool.not_true]
    exact back 1 (by decide) (by decide) e
  have c2' : endB x.to = true := by simpa using c2
  by_cases c3 : x.since < 0
  · have e : putE L x = 1 := by simp only [putE, c3, or_true, if_true]
    simp only [go_sem, end_eq, c1', c2', c3, Bool.not_true, decide_true]
    exact back 1 (by decide) (by decide) e
  have n1 : ¬ (endB x.fr = false ∨ endB x.to = false ∨ x.since < 0) := by simp [c1', c2', c3]
  by_cases c4 : x.text.size > 1048576
  · have e : putE L x = 2 := by simp only [putE, n1, c4, if_false, if_true]
    have c4' : ((1048576 : Int) < x.text.size) = True := eq_true (by omega)
    simp only [go_sem, end_eq, c1', c2', c3, c4', Bool.not_true, decide_false, decide_true]
    exact back 2 (by decide) (by decide) e
  have c4' : ((1048576 : Int) < x.text.size) = False := eq_false (by omega)
  by_cases c5 : L.length = 4096
  · have e : putE L x = 5 := by simp only [putE, n1, c4, c5, if_false, if_true]
    have c5' : ((L.length : Int) == 4096) = true := by simp [c5]
    have hw : IntKind.i64.wrap (D + 1) = D + 1 := wrap_small (n := D + 1) (by omega) (by omega)
    have hm : ((1099511627776 : Int) < D + 1) = False := eq_false (by omega)
    simp only [go_sem, end_eq, c1', c2', c3, c4', c5', hbn, hg, Bool.not_true, decide_false, decide_true, Option.isNone_some, hw, hm, Nat.le_refl]
    simp only [e] at k
    exact k _ ((b, .cells [.slice o L.length c 4, .int .i64 (D + 1)] true) :: hs) ⟨.slice o L.length c 4, hs, by simp only [putD, e, if_true], by simpa only [putL, e, show ¬ (5:Int) = 0 by decide, if_false] using hv⟩ ((H.new' _).put _)
  have e : putE L x = 0 := by simp only [putE, n1, c4, c5, if_false]
  have c5' : ((L.length : Int) == 4096) = false := by simpa using (by omega : ¬ (L.length : Int) = 4096)
  have hbn2 : (b = σ.next + 1) = False := eq_false (by omega)
  have hgx : ∀ x y, ((σ.new x).new y).get b = some (.cells [.slice o L.length c 4, .int .i64 D] true) := by
    intro x y; simp only [St.get_new, St.next_new, hbn, hbn2, if_false, hg]
  obtain ⟨o', c', σ', h', happ, hv', H'⟩ := hv.app (bytes := 40) (k := 1) (news := x.cells) (((H.new' (.cells x.cells true)).new' (.cells x.cells true)).down) (by decide) (by decide) rfl (by omega)
  rw [Item.cells] at happ
  have hg' := H'.up.g1
  simp only [go_sem, end_eq, c1', c2', c3, c4', c5', hbn, hbn2, hg, elems_pos (show 1 ≠ 0 by decide), happ, hg']
  simp only [e] at k
  exact k _ ((b, .cells [.slice o' (L.length + 1) c' 4, .int .i64 D] true) :: h')
    ⟨.slice o' (L.length + 1) c' 4, h', by simp only [putD, e, show ¬ (0:Int) = 5 by decide, if_false], by simpa [putL, e, flat] using hv'⟩ (H'.up.put _)

end Go.Proofs.Ytdebkakkeaanaaa
