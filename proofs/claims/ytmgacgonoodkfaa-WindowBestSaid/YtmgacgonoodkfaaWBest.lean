/- The best of a number is that of the greatest view that was noted: the law's walk. -/
import Derived.Test.YtmgacgonoodkfaaW8
import Derived.Test.YtmgacgonoodkfaaWiBest
namespace Go.Proofs.Ytmgacgonoodkfaa
open Go.AM
set_option maxRecDepth 100000
set_option linter.unusedSimpArgs false
set_option linter.unusedVariables false
variable {N d : Nat} {σ : St} {K : AV → St → Option Unit}

/-- The text of one byte. -/
def byteT (i : Int) : ByteArray := ByteArray.push ByteArray.empty (UInt8.ofNat (IntKind.u8.wrap i).toNat)

/-- What is known at a round's start. -/
def BestI (x : Wn) (best : Int) (at' : Int) : Prop := x.low = 0 ∧ -1 ≤ best ∧ ((best = -1 ∧ bget x.fs 5 = none) ∨ (0 ≤ best ∧ ∃ e, bget x.fs 5 = some e ∧ e.view = best ∧ e.text = byteT at'))

theorem bget_set {fs : List Bn} {c : Nat} (n v : Int) (text : ByteArray) (g : Int) : ∃ e, bget (setB fs c n v text g).1 n = some e ∧ e.view = v ∧ e.text = text := by
  unfold setB
  by_cases h : (bget fs n).isSome = true
  · rw [if_pos h]
    obtain ⟨e, he⟩ := Option.isSome_iff_exists.1 h
    have : ∀ {l : List Bn}, bget l n = some e → bget (l.map (upB n v text g)) n = some (upB n v text g e) := by
      intro l
      induction l with
      | nil => intro h; simp [bget] at h
      | cons a l ih =>
        intro h
        unfold bget at h ⊢
        rw [List.map_cons, List.find?_cons]
        rw [List.find?_cons] at h
        by_cases ha : a.number = n
        · simp only [ha, decide_true] at h
          obtain rfl : a = e := by simpa using h
          have : (upB n v text g a).number = n := by unfold upB; split <;> exact ha
          simp only [this, decide_true]
        · simp only [ha, decide_false] at h
          have : ¬ (upB n v text g a).number = n := by unfold upB; rw [if_neg ha]; exact ha
          simp only [this, decide_false]
          exact ih h
    refine ⟨_, this he, ?_⟩
    have hn := (bget_mem he).2
    simp [upB, hn]
  · rw [if_neg h]
    have hn : bget fs n = none := by simpa using h
    refine ⟨⟨n, v, text, g, c⟩, ?_, rfl, rfl⟩
    unfold bget at hn ⊢
    rw [List.find?_append, hn]
    simp

theorem best_loop {b ms mb : Nat} {vs : List Int} {o : Option (Nat × Nat)} {c : Option Nat} {hv : Hp} {J : KF Unit} (hA : Arg 1 (.slice o vs.length c 1) vs.length (vs.map (AV.int .i64)) hv) (hl : vs.length ≤ 200) :
    ∀ (m i k : Nat) (best at' : Int) (x : Wn) (h : Hp) (σ : St), m + i = vs.length → m < k → BestI x best at' → WinP b ms mb x h → HasH σ (h ++ hv) → (∀ σ', HasH σ' [] → J (.exit 0) f9e18 σ' = some ()) →
      loopK (f9L21 (callK Try.prog N ann (d + 3)) true N) f9a21 k J (f9e16 (some (b, 0)) best at' o vs.length c vs.length i) σ = some () := by
  intro m
  induction m with
  | zero =>
    intro i k best at' x h σ hm hk hI W H kont
    obtain ⟨k, rfl⟩ : ∃ k', k = k' + 1 := ⟨k - 1, by omega⟩
    have q : ((i : Int) < (vs.length : Int)) = False := eq_false (by omega)
    rw [loopK_succ]
    simp only [go_sem, q]
    exact kont σ (H.sub (List.nil_sublist _))
  | succ m ih =>
    intro i k best at' x h σ hm hk hI W H kont
    obtain ⟨k, rfl⟩ : ∃ k', k = k' + 1 := ⟨k - 1, by omega⟩
    obtain ⟨hlow, hb1, hI⟩ := hI
    have q : ((i : Int) < (vs.length : Int)) = True := eq_true (by omega)
    have c0 : ((0 : Int) ≤ (i : Int)) = True := eq_true (by omega)
    have hti : ((i : Int)).toNat = i := by omega
    have w1 : IntKind.i64.wrap ((i : Int) + 1) = ((i + 1 : Nat) : Int) := by rw [wrap_small (by omega) (by omega)]; rfl
    obtain ⟨ba, rfl, rfl⟩ := hA.row (by omega)
    have hga : σ.get ba = _ := H.right.g1
    obtain ⟨v, hvi⟩ : ∃ v, vs[i]? = some v := ⟨_, List.getElem?_eq_getElem (by omega)⟩
    have hcell : (vs.map (AV.int .i64))[i]? = some (.int .i64 v) := by rw [List.getElem?_map, hvi]; rfl
    have hby : bytesOf [AV.int .u8 (IntKind.u8.wrap (i : Int))] ByteArray.empty = some (byteT i) := by
      simp only [bytesOf, toInt_eq, Option.bind_some]; rfl
    have n1 : (1 : Nat) ≠ 0 := by decide
    rw [loopK_succ]
    simp only [go_sem, q, c0, hti, hga, hcell, Nat.mul_one, elems_pos n1, hby]
    have H1 : HasH (σ.new (.cells [.int .u8 (IntKind.u8.wrap (i : Int))] true)) (h ++ [(ba, Blk.cells (vs.map (AV.int .i64)) false)]) := H.new' _
    refine note_ok W H1 v 5 (byteT i) 0 ?_
    intro σ1 h1 W1 H2
    have ha : askE x.low v 5 = if v < 0 ∨ 1099511627776 < v then 1 else 0 := by
      unfold askE; rw [hlow]; rfl
    by_cases cv : v < 0 ∨ 1099511627776 < v
    · have ha' : askE x.low v 5 = 1 := by rw [ha, if_pos cv]
      have hnb : noteB x v 5 = false := by simp [noteB, ha']
      have hnx : noteX x v 5 (byteT i) 0 = x := by simp [noteX, hnb]
      rw [hnx] at W1
      have fin := ih (i + 1) k best at' x h1 σ1 (by omega) (by omega) ⟨hlow, hb1, hI⟩ W1 H2 kont
      by_cases c1 : v < 0
      · have q0 : ((0:Int) ≤ v) = False := eq_false (by omega)
        simp only [go_sem, ha', hnb, q0, w1]
        exact fin
      · have q0 : ((0:Int) ≤ v) = True := eq_true (by omega)
        have q1 : (v ≤ (1099511627776:Int)) = False := eq_false (by omega)
        simp only [go_sem, ha', hnb, q0, q1, w1]
        exact fin
    · have ha' : askE x.low v 5 = 0 := by rw [ha, if_neg cv]
      have q0 : ((0:Int) ≤ v) = True := eq_true (by omega)
      have q1 : (v ≤ (1099511627776:Int)) = True := eq_true (by omega)
      have hnb : noteB x v 5 = decide (best < v) := by
        unfold noteB
        rw [ha']
        rcases hI with ⟨h1, h2⟩ | ⟨h1, e, h2, h3, h4⟩
        · rw [h2]; simp; omega
        · rw [h2]; simp [h3]
      by_cases cb : best < v
      · have hnx : noteX x v 5 (byteT i) 0 = { x with fs := (setB x.fs x.c2 5 v (byteT i) 0).1, c2 := (setB x.fs x.c2 5 v (byteT i) 0).2 } := by simp [noteX, hnb, cb]
        rw [hnx] at W1
        obtain ⟨e, he1, he2, he3⟩ := bget_set (fs := x.fs) (c := x.c2) 5 v (byteT i) 0
        have hbv : bestV (setB x.fs x.c2 5 v (byteT i) 0).1 5 = v := by simp [bestV, he1, he2]
        have hbt : bestT (setB x.fs x.c2 5 v (byteT i) 0).1 5 = byteT i := by simp [bestT, he1, he3]
        have bb : ((!true) == true) = false := rfl
        simp only [go_sem, ha', hnb, q0, q1, cb, bb]
        refine best_ok W1 H2 5 ?_
        intro σ2 H3
        rw [hbv, hbt, he1]
        have eb : (byteT i = byteT i) = True := eq_true rfl
        simp only [go_sem, elems_pos n1, hby, w1, eb]
        refine ih (i + 1) k v i { x with fs := (setB x.fs x.c2 5 v (byteT i) 0).1, c2 := (setB x.fs x.c2 5 v (byteT i) 0).2 } h1 _ (by omega) (by omega) ⟨hlow, by omega, .inr ⟨by omega, e, he1, he2, he3⟩⟩ W1 ?_ kont
        exact (((H3.new _).put _).tail.new' _)
      · have hnx : noteX x v 5 (byteT i) 0 = x := by simp [noteX, hnb, cb]
        rw [hnx] at W1
        have bb : ((!false) == false) = false := rfl
        rcases hI with ⟨h1, h2⟩ | ⟨h1', e, he1, he2, he3⟩
        · exfalso; omega
        have hbv : bestV x.fs 5 = best := by simp [bestV, he1, he2]
        have hbt : bestT x.fs 5 = byteT at' := by simp [bestT, he1, he3]
        have hby' : bytesOf [AV.int .u8 (IntKind.u8.wrap at')] ByteArray.empty = some (byteT at') := by
          simp only [bytesOf, toInt_eq, Option.bind_some]; rfl
        simp only [go_sem, ha', hnb, q0, q1, cb, bb]
        refine best_ok W1 H2 5 ?_
        intro σ2 H3
        rw [hbv, hbt, he1]
        have eb : (byteT at' = byteT at') = True := eq_true rfl
        simp only [go_sem, elems_pos n1, hby', w1, eb]
        refine ih (i + 1) k best at' _ h1 _ (by omega) (by omega) ⟨hlow, hb1, .inr ⟨h1', e, he1, he2, he3⟩⟩ W1 ?_ kont
        exact (((H3.new _).put _).tail.new' _)

theorem best_law {vs : List Int} {o : Option (Nat × Nat)} {c : Option Nat} {hv : Hp} (hA : Arg 1 (.slice o vs.length c 1) vs.length (vs.map (AV.int .i64)) hv) (H : HasH σ hv) (hN : 1000 ≤ N) (k : ∀ σ', HasH σ' [] → K (.bool true) σ' = some ()) :
    callK Try.prog N ann (d + 5) true 9 [.slice o vs.length c 1] σ K = some () := by
  rw [go 9 (by decide), f9_eq]
  simp only [go_sem]
  refine new_ok H 1 1 ?_ (fun h => absurd (by decide) h)
  intro σ1 b ms mb h1 _ W1 H1
  by_cases hl : vs.length ≤ 200
  · have q : ((200 : Int) < (vs.length : Int)) = False := eq_false (by omega)
    simp only [go_sem, q]
    refine best_loop hA hl vs.length 0 N (-1) 0 _ h1 _ (by omega) (by omega) ⟨rfl, by omega, .inl ⟨rfl, rfl⟩⟩ W1 H1 ?_
    intro σ2 H2
    simp only [go_sem]
    refine moves_ok H2 (by omega) ?_
    intro σ3 H3
    simp only [go_sem]
    exact k _ H3
  · have q : ((200 : Int) < (vs.length : Int)) = True := eq_true (by omega)
    simp only [go_sem, q]
    refine moves_ok H1 (by omega) ?_
    intro σ3 H3
    simp only [go_sem]
    exact k _ (H3.sub (List.nil_sublist _))

end Go.Proofs.Ytmgacgonoodkfaa
