/- From one end to another one in the order in which it was put: the law's walk. -/
import Derived.Test.YtdebkakkeaanaaaBS4
import Derived.Test.YtdebkakkeaanaaaBS3b
import Derived.Test.YtdebkakkeaanaaaBagBetween
import Derived.Test.YtdebkakkeaanaaaA30
namespace Go.Proofs.Ytdebkakkeaanaaa
open Go.AM
set_option maxRecDepth 100000
set_option linter.unusedSimpArgs false
set_option linter.unusedVariables false
variable {N d : Nat} {σ : St} {K : AV → St → Option Unit}

/-- A step of the laws. -/
structure Stp where
  what : Int
  i : Int
  x : Item
def Stp.cells (s : Stp) : List AV := [.int .i64 s.what, .int .i64 s.i, .int .i64 s.x.fr, .int .i64 s.x.to, .int .i64 s.x.since, .str s.x.text]
def strs (l : List ByteArray) : List AV := l.map AV.str
theorem strs_get {l : List ByteArray} {i : Nat} {s : ByteArray} (h : l[i]? = some s) (junk : List AV) : (strs l ++ junk)[i]? = some (.str s) := by
  have hi : i < l.length := by obtain ⟨h, _⟩ := List.getElem?_eq_some_iff.1 h; exact h
  rw [List.getElem?_append_left (by simpa [strs] using hi)]
  simp [strs, h]

def hitI (fr to : Int) (x : Item) : Bool := x.fr == fr && x.to == to
def texts (L : List Item) (fr to : Int) : List ByteArray := (L.filter (hitI fr to)).map Item.text

theorem hit_eq (L : List Item) (fr to : Int) (j : Nat) : hit L fr to j = match L[j]? with | some x => hitI fr to x | none => false := by
  unfold hit hitI; cases L[j]? <;> rfl

theorem filter_range_none {L : List Item} {fr to : Int} : ∀ (m i : Nat), (∀ j x, i ≤ j → j < i + m → L[j]? = some x → hitI fr to x = false) → places L fr to i m = [] := by
  intro m
  induction m with
  | zero => intro i _; rfl
  | succ m ih =>
    intro i h
    have e : hit L fr to i = false := by
      rw [hit_eq]
      cases hx : L[i]? with
      | none => rfl
      | some x => exact h i x (by omega) (by omega) hx
    have := ih (i + 1) (fun j x h1 h2 => h j x (by omega) (by omega))
    simp only [places] at this ⊢
    rw [List.range'_succ, List.filter_cons_of_neg (by simp [e]), this]

theorem places_append (L : List Item) (fr to : Int) (i a b : Nat) : places L fr to i (a + b) = places L fr to i a ++ places L fr to (i + a) b := by
  simp only [places]
  rw [← List.filter_append, List.range'_append_1]

/-- The first place. -/
theorem places_first {L : List Item} {fr to : Int} :
    (texts L fr to = [] → places L fr to 0 L.length = []) ∧
    (∀ s R, texts L fr to = s :: R → ∃ j tl x, places L fr to 0 L.length = j :: tl ∧ L[j]? = some x ∧ x.text = s ∧ x.fr = fr ∧ x.to = to ∧ texts (L.eraseIdx j) fr to = R) := by
  constructor
  · intro h
    refine filter_range_none _ _ (fun j x _ _ hx => ?_)
    simp only [texts, List.map_eq_nil_iff, List.filter_eq_nil_iff] at h
    simpa using h x (List.mem_of_getElem? hx)
  · intro s R h
    simp only [texts, List.map_eq_cons_iff] at h
    obtain ⟨x, R', hf, rfl, rfl⟩ := h
    obtain ⟨A, B, rfl, hA, hx, hB⟩ := List.filter_eq_cons_iff.1 hf
    have hx' : x.fr = fr ∧ x.to = to := by simpa [hitI] using hx
    refine ⟨A.length, places (A ++ x :: B) fr to (0 + A.length + 1) B.length, x, ?_, by simp, rfl, hx'.1, hx'.2, ?_⟩
    · rw [List.length_append, List.length_cons, places_append, filter_range_none A.length 0 ?_, List.nil_append]
      · have e : hit (A ++ x :: B) fr to A.length = true := by rw [hit_eq]; simp [hx]
        simp only [places, Nat.zero_add]
        rw [List.range'_succ, List.filter_cons_of_pos e]
      · intro j y _ hj hy
        rw [List.getElem?_append_left (by omega)] at hy
        simpa using hA y (List.mem_of_getElem? hy)
    · rw [List.eraseIdx_append_of_length_le (Nat.le_refl _)]
      simp only [Nat.sub_self, List.eraseIdx_cons_zero, texts, List.filter_append, hB]
      rw [List.filter_eq_nil_iff.2 (by simpa using hA)]
      rfl

section
variable {b : Nat} {r hl : Hp} {J : KF Unit} {ss : List Stp} {ol : Option (Nat × Nat)} {cl : Option Nat} {fr to : Int}

theorem texts_append (L : List Item) (x : Item) : texts (L ++ [x]) fr to = if hitI fr to x = true then texts L fr to ++ [x.text] else texts L fr to := by
  by_cases h : hitI fr to x = true
  · simp [texts, List.filter_append, h]
  · simp [texts, List.filter_append, h]

theorem b_loop1 (hss : ss.length ≤ 200) (hA : Arg 6 (.slice ol ss.length cl 6) ss.length (ss.flatMap Stp.cells) hl) :
    ∀ (m i n : Nat) (L : List Item) (o : Option (Nat × Nat)) (c : Option Nat) (h hv : Hp) (σ : St), m + i = ss.length → m < n → L.length ≤ i → BagP b L 0 h →
      Vec 1 (.slice o (texts L fr to).length c 1) (texts L fr to).length (strs (texts L fr to)) hv → HasH σ (h ++ (hv ++ (hl ++ r))) →
      (∀ σ' L' o' c' h' hv', L'.length ≤ 200 → BagP b L' 0 h' → Vec 1 (.slice o' (texts L' fr to).length c' 1) (texts L' fr to).length (strs (texts L' fr to)) hv' → HasH σ' (h' ++ (hv' ++ (hl ++ r))) →
        J (.exit 0) (f5e14 fr to (some (b, 0)) o' (texts L' fr to).length c') σ' = some ()) →
      loopK (f5L19 (callK Try.prog N ann (d + 2)) N) f5a19 n J (f5e12 fr to (some (b, 0)) o (texts L fr to).length c ol ss.length cl ss.length i) σ = some () := by
  intro m
  induction m with
  | zero =>
    intro i n L o c h hv σ hm hn hle hB hV H k
    obtain ⟨n, rfl⟩ : ∃ n', n = n' + 1 := ⟨n - 1, by omega⟩
    have h1 : ((i:Int) < ss.length) = False := eq_false (by omega)
    rw [loopK_succ]
    simp only [go_sem, h1]
    exact k σ L o c h hv (by omega) hB hV H
  | succ m ih =>
    intro i n L o c h hv σ hm hn hle hB hV H k
    obtain ⟨n, rfl⟩ : ∃ n', n = n' + 1 := ⟨n - 1, by omega⟩
    have h0 : ((0:Int) ≤ i) = True := eq_true (by omega)
    have h1 : ((i:Int) < ss.length) = True := eq_true (by omega)
    have hti : ((i:Int)).toNat = i := by omega
    have hw1 : IntKind.i64.wrap ((i:Int) + 1) = (i:Int) + 1 := wrap_small (n := (i:Int) + 1) (by omega) (by omega)
    obtain ⟨s, hs⟩ : ∃ s, ss[i]? = some s := ⟨_, List.getElem?_eq_getElem (by omega)⟩
    obtain ⟨ba, rfl, rfl⟩ := hA.row (by omega)
    have hga : σ.get ba = some (.cells (ss.flatMap Stp.cells) false) := H.right.right.g1
    have hba : (ba = σ.next) = False := eq_false (by have := H.right.right.l1; omega)
    have hz : ∀ a : Stp, a.cells.length = 6 := fun _ => rfl
    have q : ∀ j, j < 6 → (ss.flatMap Stp.cells)[i * 6 + j]? = s.cells[j]? := fun j hj => by simpa using flatMap_get hz hj hs []
    have q0 : (ss.flatMap Stp.cells)[i * 6]? = some (.int .i64 s.what) := q 0 (by omega)
    have q1 : (ss.flatMap Stp.cells)[i * 6 + 1]? = some (.int .i64 s.i) := q 1 (by omega)
    have q2 : (ss.flatMap Stp.cells)[i * 6 + 2]? = some (.int .i64 s.x.fr) := q 2 (by omega)
    have q3 : (ss.flatMap Stp.cells)[i * 6 + 3]? = some (.int .i64 s.x.to) := q 3 (by omega)
    have q4 : (ss.flatMap Stp.cells)[i * 6 + 4]? = some (.int .i64 s.x.since) := q 4 (by omega)
    have q5 : (ss.flatMap Stp.cells)[i * 6 + 5]? = some (.str s.x.text) := q 5 (by omega)
    have H2 := ((H.new (.cells [.int .i64 0, .int .i64 0, .int .i64 0, .int .i64 0, .int .i64 0, .str (ByteArray.mk #[])] true)).put (.cells s.cells true))
    rw [loopK_succ]
    simp only [go_sem, h1, h0, hga, hti, q0, q1, q2, q3, q4, q5, hba]
    refine put_ok (x := s.x) hB H2.down (by decide) (by omega) ?_
    intro σ2 h2 hB2 H3
    have gs := H3.up.g1
    simp only [Stp.cells] at gs
    have hE : putE L s.x = 0 ∨ putE L s.x = 1 ∨ putE L s.x = 2 := by
      unfold putE
      split
      · exact .inr (.inl rfl)
      · split
        · exact .inr (.inr rfl)
        · rw [if_neg (by omega)]; exact .inl rfl
    rcases hE with e | e | e
    · simp only [putL, putD, e, show ¬ (0:Int) = 5 by decide, if_true, if_false] at hB2
      have hle2 : (L ++ [s.x]).length ≤ i + 1 := by simp; omega
      by_cases hf : s.x.fr = fr
      · have hf' : (s.x.fr == fr) = true := by simpa using hf
        by_cases ht : s.x.to = to
        · have ht' : (s.x.to == to) = true := by simpa using ht
          have hT : texts (L ++ [s.x]) fr to = texts L fr to ++ [s.x.text] := by rw [texts_append, if_pos (by simp [hitI, hf, ht])]
          have hlt : (texts L fr to).length ≤ L.length := by simpa [texts] using List.length_filter_le _ L
          obtain ⟨o', c', σ', h', happ, hv', H'⟩ := hV.app (bytes := 16) (k := 1) (news := [AV.str s.x.text]) ((H3.up.tail.new' (.cells [AV.str s.x.text] true)).mid) (by decide) (by decide) rfl (by omega)
          simp only [go_sem, e, gs, hf', ht', hw1, elems_pos (show 1 ≠ 0 by decide), happ]
          have := ih (i + 1) n (L ++ [s.x]) o' c' h2 h' σ' (by omega) (by omega) hle2 hB2 (by rw [hT]; simpa [strs] using hv') H'.mid k
          rw [hT] at this
          simpa using this
        · have ht' : (s.x.to == to) = false := by simpa using ht
          have hT : texts (L ++ [s.x]) fr to = texts L fr to := by rw [texts_append, if_neg (by simp [hitI, hf, ht])]
          simp only [go_sem, e, gs, hf', ht', hw1]
          have := ih (i + 1) n (L ++ [s.x]) o c h2 hv σ2 (by omega) (by omega) hle2 hB2 (by rw [hT]; exact hV) H3.up.tail k
          rw [hT] at this
          exact this
      · have hf' : (s.x.fr == fr) = false := by simpa using hf
        have hT : texts (L ++ [s.x]) fr to = texts L fr to := by rw [texts_append, if_neg (by simp [hitI, hf])]
        simp only [go_sem, e, gs, hf', hw1]
        have := ih (i + 1) n (L ++ [s.x]) o c h2 hv σ2 (by omega) (by omega) hle2 hB2 (by rw [hT]; exact hV) H3.up.tail k
        rw [hT] at this
        exact this
    · simp only [putL, putD, e, show ¬ (1:Int) = 5 by decide, show ¬ (1:Int) = 0 by decide, if_false] at hB2
      simp only [go_sem, e, gs, hw1]
      exact ih (i + 1) n L o c h2 hv σ2 (by omega) (by omega) (by omega) hB2 hV H3.up.tail k
    · simp only [putL, putD, e, show ¬ (2:Int) = 5 by decide, show ¬ (2:Int) = 0 by decide, if_false] at hB2
      simp only [go_sem, e, gs, hw1]
      exact ih (i + 1) n L o c h2 hv σ2 (by omega) (by omega) (by omega) hB2 hV H3.up.tail k

theorem b_loop2 {want : List ByteArray} (hwl : want.length ≤ 200) {o : Option (Nat × Nat)} {c : Option Nat} {hv : Hp} (hV : Vec 1 (.slice o want.length c 1) want.length (strs want) hv) (hN : 5000 ≤ N) :
    ∀ (m i n : Nat) (L : List Item) (h : Hp) (σ : St), m + i = want.length → m < n → L.length ≤ 200 → texts L fr to = want.drop i → BagP b L 0 h → HasH σ (h ++ (hv ++ r)) →
      (∀ σ' L' h', L'.length ≤ 200 → texts L' fr to = [] → BagP b L' 0 h' → HasH σ' (h' ++ (hv ++ r)) → J (.exit 2) (f5e26 fr to (some (b, 0))) σ' = some ()) →
      loopK (f5L40 (callK Try.prog N ann (d + 3)) N) f5a40 n J (f5e24 fr to (some (b, 0)) o want.length c want.length i) σ = some () := by
  intro m
  induction m with
  | zero =>
    intro i n L h σ hm hn hL hT hB H k
    obtain ⟨n, rfl⟩ : ∃ n', n = n' + 1 := ⟨n - 1, by omega⟩
    have h1 : ((i:Int) < want.length) = False := eq_false (by omega)
    rw [loopK_succ]
    simp only [go_sem, h1]
    exact k σ L h hL (by rw [hT, List.drop_eq_nil_of_le (by omega)]) hB H
  | succ m ih =>
    intro i n L h σ hm hn hL hT hB H k
    obtain ⟨n, rfl⟩ : ∃ n', n = n' + 1 := ⟨n - 1, by omega⟩
    have h0 : ((0:Int) ≤ i) = True := eq_true (by omega)
    have h1 : ((i:Int) < want.length) = True := eq_true (by omega)
    have hti : ((i:Int)).toNat = i := by omega
    have hw1 : IntKind.i64.wrap ((i:Int) + 1) = (i:Int) + 1 := wrap_small (n := (i:Int) + 1) (by omega) (by omega)
    obtain ⟨s, hs⟩ : ∃ s, want[i]? = some s := ⟨_, List.getElem?_eq_getElem (by omega)⟩
    have hd : want.drop i = s :: want.drop (i + 1) := by
      rw [List.drop_eq_getElem_cons (by omega)]; congr 1; rw [List.getElem?_eq_getElem (by omega)] at hs; exact Option.some.inj hs
    obtain ⟨j, tl, x, hp, hx, hxs, hxf, hxt, hR⟩ := places_first.2 s _ (hT.trans hd)
    obtain ⟨-, bv, junk, rfl, rfl, -⟩ := hV.row (by omega)
    have hgv : σ.get bv = _ := H.right.g1
    have hq : (strs want ++ junk)[i]? = some (.str s) := strs_get hs junk
    rw [loopK_succ]
    simp only [go_sem, h1, h0, hgv, hti, Nat.mul_one, hq]
    refine between_ok hB H (by omega) hN ?_
    rw [hp]
    intro σ2 o2 c2 hp2 hV2 H2
    obtain ⟨-, bp, junk2, rfl, rfl, -⟩ := hV2.row (by simp)
    have hgp : σ2.get bp = _ := H2.right.g1
    have hlen : (((tl.length + 1 : Nat) : Int) == 0) = false := by simpa using (by omega : ¬ ((tl.length + 1 : Nat) : Int) = 0)
    have hpos : ((0:Int) < ((tl.length + 1 : Nat) : Int)) = True := eq_true (by omega)
    have hr : inR L (j:Int) := ⟨by omega, by obtain ⟨h, _⟩ := List.getElem?_eq_some_iff.1 hx; omega⟩
    have e : seeE L (j:Int) = 0 := by simp only [seeE, hr, if_true]
    have hxx : seeX L (j:Int) = x := by simp [seeX, hr, hx]
    have hpk : pickL L (j:Int) = L.eraseIdx j := by simp [pickL, hr]
    simp only [ints, List.map_cons, List.cons_append] at hgp
    simp only [go_sem, hlen, hpos, hgp, Int.toNat_zero, Nat.zero_mul, Int.le_refl]
    refine pick_ok hB H2 (by omega) j ?_
    rw [hpk, e, hxx]
    intro σ3 h3 hB3 H3
    have H4 := ((H3.new (.cells Item.zero.cells true)).put (.cells x.cells true))
    have gx := H4.g1
    simp only [Item.cells, Item.zero] at gx H4
    simp only [hxs, hxf, hxt] at gx H4
    simp only [go_sem, Item.cells, gx, hxs, hxf, hxt, hw1, decide_true]
    refine ih (i + 1) n (L.eraseIdx j) h3 _ (by omega) (by omega) (by have := List.length_eraseIdx_le L j; omega) hR hB3 ?_ k
    exact H4.tail.mid.right.mid.mid

end

theorem between_law {ss : List Stp} {fr to : Int} {ol : Option (Nat × Nat)} {cl : Option Nat} {hl : Hp} (hA : Arg 6 (.slice ol ss.length cl 6) ss.length (ss.flatMap Stp.cells) hl)
    (H : HasH σ hl) (hN : 5000 ≤ N) (k : ∀ σ', HasH σ' [] → K (.bool true) σ' = some ()) :
    callK Try.prog N ann (d + 5) 5 [.int .i64 fr, .int .i64 to, .slice ol ss.length cl 6] σ K = some () := by
  rw [callK_succ, f5_eq]
  simp only [go_sem]
  refine new_ok H ?_
  intro σ1 b h1 hB1 H1
  by_cases c1 : 200 < (ss.length : Int)
  · simp only [go_sem, c1]
    refine three_ok H1 ?_
    intro σ2 H2
    simp only [go_sem]
    exact k _ (H2.sub (List.nil_sublist _))
  simp only [go_sem, c1]
  refine b_loop1 (b := b) (r := []) (fr := fr) (to := to) (by omega) hA ss.length 0 N [] none (some 0) h1 [] σ1 (by omega) (by omega) (by simp) hB1 (by simpa [strs, texts] using Vec.nil 1) (by simpa using H1) ?_
  intro σ2 L o2 c2 h2 hv2 hl2 hB2 hV2 H2
  simp only [go_sem]
  have hlt : (texts L fr to).length ≤ L.length := by simpa [texts] using List.length_filter_le _ L
  refine b_loop2 (b := b) (r := hl ++ []) (by omega) hV2 hN (texts L fr to).length 0 N L h2 σ2 (by omega) (by omega) hl2 (by simp) hB2 H2 ?_
  intro σ3 L3 h3 hl3 hT3 hB3 H3
  simp only [go_sem]
  refine between_ok hB3 H3 (by omega) hN ?_
  rw [places_first.1 hT3]
  intro σ4 o4 c4 h4 hV4 H4
  simp only [go_sem, show ((([] : List Nat).length : Int) == 0) = true from rfl]
  refine three_ok H4 ?_
  intro σ5 H5
  simp only [go_sem]
  exact k _ (H5.sub (List.nil_sublist _))

end Go.Proofs.Ytdebkakkeaanaaa
