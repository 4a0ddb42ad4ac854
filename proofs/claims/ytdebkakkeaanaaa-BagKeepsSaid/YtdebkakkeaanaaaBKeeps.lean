/- What is picked was put: the law's walk. -/
import Derived.Test.YtdebkakkeaanaaaBS4
import Derived.Test.YtdebkakkeaanaaaBagKeeps
import Derived.Test.YtdebkakkeaanaaaA30
namespace Go.Proofs.Ytdebkakkeaanaaa
open Go.AM
set_option maxRecDepth 100000
set_option linter.unusedSimpArgs false
set_option linter.unusedVariables false
variable {N d : Nat} {σ : St} {K : AV → St → Option Unit}

def tx (s : ByteArray) : Item := ⟨0, 0, 0, s⟩
def strs (l : List ByteArray) : List AV := l.map AV.str
def intsZ (l : List Int) : List AV := l.map (AV.int .i64)

theorem strs_get {l : List ByteArray} {i : Nat} {s : ByteArray} (h : l[i]? = some s) (junk : List AV) : (strs l ++ junk)[i]? = some (.str s) := by
  have hi : i < l.length := by obtain ⟨h, _⟩ := List.getElem?_eq_some_iff.1 h; exact h
  rw [List.getElem?_append_left (by simpa [strs] using hi)]
  simp [strs, h]

theorem putE_tx {L : List Item} (s : ByteArray) (hl : L.length ≠ 4096) : putE L (tx s) = if s.size > 1048576 then 2 else 0 := by
  have : ¬ (endB (tx s).fr = false ∨ endB (tx s).to = false ∨ (tx s).since < 0) := show ¬ (endB 0 = false ∨ endB 0 = false ∨ (0:Int) < 0) by decide
  simp only [putE, this, hl, if_false]; rfl

section
variable {b : Nat} {r hl : Hp} {J : KF Unit} {ss : List ByteArray} {ol : Option (Nat × Nat)} {cl : Option Nat} {y0 : Option (Nat × Nat)} {y1 : Nat} {y2 : Option Nat}

theorem k_loop1 (hss : ss.length ≤ 300) (hA : Arg 1 (.slice ol ss.length cl 1) ss.length (strs ss) hl) :
    ∀ (m i n : Nat) (left : List ByteArray) (o : Option (Nat × Nat)) (c : Option Nat) (h hv : Hp) (σ : St), m + i = ss.length → m < n → left.length ≤ i → BagP b (left.map tx) 0 h →
      Vec 1 (.slice o left.length c 1) left.length (strs left) hv → HasH σ (h ++ (hv ++ (hl ++ r))) →
      (∀ σ' left' o' c' h' hv', left'.length ≤ 300 → BagP b (left'.map tx) 0 h' → Vec 1 (.slice o' left'.length c' 1) left'.length (strs left') hv' → HasH σ' (h' ++ (hv' ++ (hl ++ r))) →
        J (.exit 0) (f3e15 y0 y1 y2 (some (b, 0)) o' left'.length c') σ' = some ()) →
      loopK (f3L19 (callK Try.prog N ann (d + 2)) N) f3a19 n J (f3e13 y0 y1 y2 (some (b, 0)) o left.length c ol ss.length cl ss.length i) σ = some () := by
  intro m
  induction m with
  | zero =>
    intro i n left o c h hv σ hm hn hle hB hV H k
    obtain ⟨n, rfl⟩ : ∃ n', n = n' + 1 := ⟨n - 1, by omega⟩
    have h1 : ((i:Int) < ss.length) = False := eq_false (by omega)
    rw [loopK_succ]
    simp only [go_sem, h1]
    exact k σ left o c h hv (by omega) hB hV H
  | succ m ih =>
    intro i n left o c h hv σ hm hn hle hB hV H k
    obtain ⟨n, rfl⟩ : ∃ n', n = n' + 1 := ⟨n - 1, by omega⟩
    have h0 : ((0:Int) ≤ i) = True := eq_true (by omega)
    have h1 : ((i:Int) < ss.length) = True := eq_true (by omega)
    have hti : ((i:Int)).toNat = i := by omega
    have hw1 : IntKind.i64.wrap ((i:Int) + 1) = (i:Int) + 1 := wrap_small (n := (i:Int) + 1) (by omega) (by omega)
    obtain ⟨s, hs⟩ : ∃ s, ss[i]? = some s := ⟨_, List.getElem?_eq_getElem (by omega)⟩
    obtain ⟨ba, rfl, rfl⟩ := hA.row (by omega)
    have hga : σ.get ba = some (.cells (strs ss) false) := H.right.right.g1
    have hq : (strs ss)[i]? = some (.str s) := by simpa using strs_get hs []
    rw [loopK_succ]
    simp only [go_sem, h1, h0, hga, hti, Nat.mul_one, hq]
    refine put_ok (x := tx s) hB H (by decide) (by simp; omega) ?_
    have hpe : putE (left.map tx) (tx s) = if s.size > 1048576 then 2 else 0 := putE_tx s (by simp; omega)
    by_cases hsz : s.size > 1048576
    · rw [if_pos hsz] at hpe
      simp only [hpe, putL, putD, show ¬ (2:Int) = 0 by decide, show ¬ (2:Int) = 5 by decide, if_false]
      intro σ2 h2 hB2 H2
      simp only [go_sem, hw1]
      exact ih (i + 1) n left o c h2 hv σ2 (by omega) (by omega) (by omega) hB2 hV H2 k
    · rw [if_neg hsz] at hpe
      simp only [hpe, putL, putD, show ¬ (0:Int) = 5 by decide, if_true, if_false]
      intro σ2 h2 hB2 H2
      obtain ⟨o', c', σ', h', happ, hv', H'⟩ := hV.app (bytes := 16) (k := 1) (news := [AV.str s]) ((H2.new' (.cells [AV.str s] true)).mid) (by decide) (by decide) rfl (by omega)
      simp only [go_sem, hw1, elems_pos (show 1 ≠ 0 by decide), happ]
      have := ih (i + 1) n (left ++ [s]) o' c' h2 h' σ' (by omega) (by omega) (by simp; omega) (by simpa using hB2) (by simpa [strs] using hv') H'.mid k
      simpa using this


theorem erase_take_succ (left : List ByteArray) (p k : Nat) (s : ByteArray) (hs : left[k]? = some s) :
    (left.take (k + 1)).eraseIdx p = if k = p then (left.take k).eraseIdx p else (left.take k).eraseIdx p ++ [s] := by
  have hk : k < left.length := by obtain ⟨h, _⟩ := List.getElem?_eq_some_iff.1 hs; exact h
  have e : left.take (k + 1) = left.take k ++ [s] := by rw [List.take_add_one, hs]; rfl
  have hl : (left.take k).length = k := by simp; omega
  rw [e]
  by_cases h : k = p
  · subst h
    rw [if_pos rfl, List.eraseIdx_append_of_length_le (by omega), hl, Nat.sub_self, List.eraseIdx_of_length_le (l := left.take k) (by omega)]
    simp
  · rw [if_neg h]
    by_cases h2 : p < k
    · rw [List.eraseIdx_append_of_lt_length (by omega)]
    · rw [List.eraseIdx_of_length_le (by simp; omega), List.eraseIdx_of_length_le (by omega)]

/-- What is left, but the picked one. -/
theorem k_loop3 {p : Nat} {q : Int} (hpq : q = p) {left : List ByteArray} {hL : left.length ≤ 300} {y5 : Option (Nat × Nat)} {y6 : Nat} {y7 : Option Nat} {y8 y9 : Int} {ov : Option (Nat × Nat)} {cv : Option Nat} {hv : Hp}
    (hV : Vec 1 (.slice ov left.length cv 1) left.length (strs left) hv) :
    ∀ (m i n : Nat) (o : Option (Nat × Nat)) (c : Option Nat) (hr : Hp) (σ : St), m + i = left.length → m < n →
      Vec 1 (.slice o ((left.take i).eraseIdx p).length c 1) ((left.take i).eraseIdx p).length (strs ((left.take i).eraseIdx p)) hr → HasH σ (hr ++ (hv ++ r)) →
      (∀ σ' o' c' hr', Vec 1 (.slice o' (left.eraseIdx p).length c' 1) (left.eraseIdx p).length (strs (left.eraseIdx p)) hr' → HasH σ' (hr' ++ (hv ++ r)) →
        J (.exit 4) (f3e44 (some (b, 0)) o' (left.eraseIdx p).length c' y5 y6 y7 y8 y9) σ' = some ()) →
      loopK (f3L83 (callK Try.prog N ann d) N) f3a83 n J (f3e42 (some (b, 0)) q o ((left.take i).eraseIdx p).length c y5 y6 y7 y8 y9 ov left.length cv left.length i) σ = some () := by
  subst hpq
  intro m
  induction m with
  | zero =>
    intro i n o c hr σ hm hn hV2 H k
    obtain ⟨n, rfl⟩ : ∃ n', n = n' + 1 := ⟨n - 1, by omega⟩
    have h1 : ((i:Int) < left.length) = False := eq_false (by omega)
    rw [loopK_succ]
    rw [List.take_of_length_le (by omega)] at hV2 ⊢
    simp only [go_sem, h1]
    exact k σ o c hr hV2 H
  | succ m ih =>
    intro i n o c hr σ hm hn hV2 H k
    obtain ⟨n, rfl⟩ : ∃ n', n = n' + 1 := ⟨n - 1, by omega⟩
    have h0 : ((0:Int) ≤ i) = True := eq_true (by omega)
    have h1 : ((i:Int) < left.length) = True := eq_true (by omega)
    have hti : ((i:Int)).toNat = i := by omega
    have hw1 : IntKind.i64.wrap ((i:Int) + 1) = (i:Int) + 1 := wrap_small (n := (i:Int) + 1) (by omega) (by omega)
    obtain ⟨s, hs⟩ : ∃ s, left[i]? = some s := ⟨_, List.getElem?_eq_getElem (by omega)⟩
    have hE := erase_take_succ left p i s hs
    obtain ⟨-, bv, junk, rfl, rfl, -⟩ := hV.row (by omega)
    have hgv : σ.get bv = _ := H.right.g1
    have hq : (strs left ++ junk)[i]? = some (.str s) := strs_get hs junk
    rw [loopK_succ]
    have hlt : ((left.take i).eraseIdx p).length ≤ 300 := by
      have := List.length_eraseIdx_le (left.take i) p
      simp at this; omega
    by_cases hip : i = p
    · have hb : (((i:Int)) != (p:Int)) = false := by simp [hip]
      rw [if_pos hip] at hE
      simp only [go_sem, h1, h0, hgv, hti, Nat.mul_one, hq, hb, hw1]
      rw [← hE] at hV2 ⊢
      exact ih (i + 1) n o c hr σ (by omega) (by omega) hV2 H k
    · have hb : (((i:Int)) != (p:Int)) = true := by simp; omega
      rw [if_neg hip] at hE
      obtain ⟨o', c', σ', h', happ, hv', H'⟩ := hV2.app (bytes := 16) (k := 1) (news := [AV.str s]) (H.new' (.cells [AV.str s] true)) (by decide) (by decide) rfl (by omega)
      simp only [go_sem, h1, h0, hgv, hti, Nat.mul_one, hq, hb, hw1, elems_pos (show 1 ≠ 0 by decide), happ]
      have hl2 : ((left.take (i + 1)).eraseIdx p).length = ((left.take i).eraseIdx p).length + 1 := by rw [hE]; simp
      have := ih (i + 1) n o' c' h' σ' (by omega) (by omega) (by rw [hl2, hE]; simpa [strs] using hv') H' k
      rw [hl2] at this
      exact this

theorem erase_map (left : List ByteArray) (p : Nat) : (left.map tx).eraseIdx p = (left.eraseIdx p).map tx := by
  induction left generalizing p with
  | nil => simp
  | cons a l ih => cases p <;> simp [ih]

theorem k_loop2 {ps : List Int} {op : Option (Nat × Nat)} {cp : Option Nat} {hp : Hp} (hps : ps.length ≤ 300) (hA : Arg 1 (.slice op ps.length cp 1) ps.length (intsZ ps) hp) (hN : 5000 ≤ N) :
    ∀ (m i n : Nat) (left : List ByteArray) (o : Option (Nat × Nat)) (c : Option Nat) (h hv : Hp) (σ : St), m + i = ps.length → m < n → left.length ≤ 300 → BagP b (left.map tx) 0 h →
      Vec 1 (.slice o left.length c 1) left.length (strs left) hv → HasH σ (h ++ (hv ++ (hp ++ r))) →
      (∀ σ' left' o' c' h' hv', left'.length ≤ 300 → BagP b (left'.map tx) 0 h' → Vec 1 (.slice o' left'.length c' 1) left'.length (strs left') hv' → HasH σ' (h' ++ (hv' ++ (hp ++ r))) →
        J (.exit 2) (f3e25 (some (b, 0)) o' left'.length c') σ' = some ()) →
      loopK (f3L40 (callK Try.prog N ann (d + 3)) N) f3a40 n J (f3e23 (some (b, 0)) o left.length c op ps.length cp ps.length i) σ = some () := by
  intro m
  induction m with
  | zero =>
    intro i n left o c h hv σ hm hn hle hB hV H k
    obtain ⟨n, rfl⟩ : ∃ n', n = n' + 1 := ⟨n - 1, by omega⟩
    have h1 : ((i:Int) < ps.length) = False := eq_false (by omega)
    rw [loopK_succ]
    simp only [go_sem, h1]
    exact k σ left o c h hv (by omega) hB hV H
  | succ m ih =>
    intro i n left o c h hv σ hm hn hle hB hV H k
    obtain ⟨n, rfl⟩ : ∃ n', n = n' + 1 := ⟨n - 1, by omega⟩
    have h0 : ((0:Int) ≤ i) = True := eq_true (by omega)
    have h1 : ((i:Int) < ps.length) = True := eq_true (by omega)
    have hti : ((i:Int)).toNat = i := by omega
    have hw1 : IntKind.i64.wrap ((i:Int) + 1) = (i:Int) + 1 := wrap_small (n := (i:Int) + 1) (by omega) (by omega)
    obtain ⟨p, hs⟩ : ∃ p, ps[i]? = some p := ⟨_, List.getElem?_eq_getElem (by omega)⟩
    obtain ⟨ba, rfl, rfl⟩ := hA.row (by omega)
    have hga : σ.get ba = some (.cells (intsZ ps) false) := H.right.right.g1
    have hq : (intsZ ps)[i]? = some (.int .i64 p) := by simp [intsZ, hs]
    rw [loopK_succ]
    simp only [go_sem, h1, h0, hga, hti, Nat.mul_one, hq]
    refine pick_ok hB H (by simp; omega) p ?_
    intro σ1 h' hB1 H1
    have H2 := ((H1.new (.cells Item.zero.cells true)).put (.cells (seeX (left.map tx) p).cells true))
    by_cases hr : inR (left.map tx) p
    · have e : seeE (left.map tx) p = 0 := by simp only [seeE, hr, if_true]
      simp only [pickL, hr, if_true] at hB1
      obtain ⟨hp0, hp1⟩ := hr
      simp only [List.length_map] at hp1
      have c0 : ((0:Int) ≤ p) = True := eq_true hp0
      have c1 : (p < (left.length : Int)) = True := eq_true hp1
      obtain ⟨s, hsx⟩ : ∃ s, left[p.toNat]? = some s := ⟨_, List.getElem?_eq_getElem (by omega)⟩
      have hxx : seeX (left.map tx) p = tx s := by
        have : inR (left.map tx) p := ⟨hp0, by simpa using hp1⟩
        simp [seeX, this, hsx]
      rw [hxx] at H2 ⊢
      rw [e]
      obtain ⟨-, bv, junk, rfl, rfl, -⟩ := hV.row (by omega)
      have hgv := H2.tail.right.g1
      have hqv : (strs left ++ junk)[p.toNat]? = some (.str s) := strs_get hsx junk
      have gx := H2.g1
      simp only [Item.cells, Item.zero, tx] at hgv gx H2
      simp only [go_sem, Item.cells, tx, c0, c1, hgv, Nat.mul_one, hqv]
      rw [erase_map] at hB1
      refine k_loop3 (b := b) (r := h' ++ ([(ba, Blk.cells (intsZ ps) false)] ++ r)) (p := p.toNat) (q := p) (by omega) (hL := hle) hV left.length 0 N none (some 0) [] _ (by omega) (by omega) (by simpa [strs] using Vec.nil 1) (H2.tail.mid) ?_
      intro σ3 o3 c3 h3 hV3 H3
      simp only [go_sem, hw1]
      refine ih (i + 1) n (left.eraseIdx p.toNat) o3 c3 h' h3 σ3 (by omega) (by omega) (by have := List.length_eraseIdx_le left p.toNat; omega) hB1 hV3 ?_ k
      exact (H3.mid.right).mid
    · have e : seeE (left.map tx) p = 6 := by simp only [seeE, hr, if_false]
      simp only [pickL, hr, if_false] at hB1
      rw [e]
      have hr' : ¬ (0 ≤ p ∧ p < (left.length : Int)) := by simpa [inR] using hr
      simp only [Item.cells, Item.zero] at H2
      by_cases c0 : 0 ≤ p
      · have c1 : (p < (left.length : Int)) = False := eq_false (by omega)
        simp only [go_sem, Item.cells, c0, c1, hw1]
        exact ih (i + 1) n left o c h' hv _ (by omega) (by omega) hle hB1 hV H2.tail k
      · simp only [go_sem, Item.cells, c0, hw1]
        exact ih (i + 1) n left o c h' hv _ (by omega) (by omega) hle hB1 hV H2.tail k

theorem k_loop4 {left : List ByteArray} (hL : left.length ≤ 300) {o : Option (Nat × Nat)} {c : Option Nat} {h hv : Hp} (hB : BagP b (left.map tx) 0 h) (hV : Vec 1 (.slice o left.length c 1) left.length (strs left) hv) :
    ∀ (m i n : Nat) (σ : St), m + i = left.length → m < n → HasH σ (h ++ (hv ++ r)) →
      (∀ σ', HasH σ' (h ++ (hv ++ r)) → J (.exit 6) (f3e25 (some (b, 0)) o left.length c) σ' = some ()) →
      loopK (f3L104 (callK Try.prog N ann (d + 2)) N) f3a104 n J (f3e53 (some (b, 0)) o left.length c o left.length c left.length i) σ = some () := by
  intro m
  induction m with
  | zero =>
    intro i n σ hm hn H k
    obtain ⟨n, rfl⟩ : ∃ n', n = n' + 1 := ⟨n - 1, by omega⟩
    have h1 : ((i:Int) < left.length) = False := eq_false (by omega)
    rw [loopK_succ]
    simp only [go_sem, h1]
    exact k σ H
  | succ m ih =>
    intro i n σ hm hn H k
    obtain ⟨n, rfl⟩ : ∃ n', n = n' + 1 := ⟨n - 1, by omega⟩
    have h0 : ((0:Int) ≤ i) = True := eq_true (by omega)
    have h1 : ((i:Int) < left.length) = True := eq_true (by omega)
    have hti : ((i:Int)).toNat = i := by omega
    have hw1 : IntKind.i64.wrap ((i:Int) + 1) = (i:Int) + 1 := wrap_small (n := (i:Int) + 1) (by omega) (by omega)
    obtain ⟨s, hs⟩ : ∃ s, left[i]? = some s := ⟨_, List.getElem?_eq_getElem (by omega)⟩
    obtain ⟨-, bv, junk, rfl, rfl, -⟩ := hV.row (by omega)
    have hgv : σ.get bv = _ := H.right.g1
    have hq : (strs left ++ junk)[i]? = some (.str s) := strs_get hs junk
    have hr : inR (left.map tx) (i:Int) := ⟨by omega, by simp; omega⟩
    have e : seeE (left.map tx) i = 0 := by simp only [seeE, hr, if_true]
    have hxx : seeX (left.map tx) i = tx s := by simp [seeX, hr, hs]
    rw [loopK_succ]
    simp only [go_sem, h1, h0, hgv, hti, Nat.mul_one, hq]
    refine see_ok hB H i ?_
    rw [e, hxx]
    intro σ1 H1
    have H2 := ((H1.new (.cells Item.zero.cells true)).put (.cells (tx s).cells true))
    have gx := H2.g1
    simp only [Item.cells, Item.zero, tx] at gx H2
    simp only [go_sem, Item.cells, tx, gx, decide_true, hw1]
    exact ih (i + 1) n _ (by omega) (by omega) H2.tail k

end

theorem keeps_ok {ss : List ByteArray} {ps : List Int} {ol op : Option (Nat × Nat)} {cl cp : Option Nat} {hl hp : Hp} (hA : Arg 1 (.slice ol ss.length cl 1) ss.length (strs ss) hl) (hP : Arg 1 (.slice op ps.length cp 1) ps.length (intsZ ps) hp)
    (H : HasH σ (hl ++ hp)) (hN : 5000 ≤ N) (k : ∀ σ', HasH σ' [] → K (.bool true) σ' = some ()) :
    callK Try.prog N ann (d + 5) 3 [.slice ol ss.length cl 1, .slice op ps.length cp 1] σ K = some () := by
  rw [callK_succ, f3_eq]
  simp only [go_sem]
  refine new_ok H ?_
  intro σ1 b h1 hB1 H1
  by_cases c1 : 300 < (ss.length : Int)
  · simp only [go_sem, c1]
    refine three_ok H1 ?_
    intro σ2 H2
    simp only [go_sem]
    exact k _ (H2.sub (List.nil_sublist _))
  by_cases c2 : 300 < (ps.length : Int)
  · simp only [go_sem, c1, c2]
    refine three_ok H1 ?_
    intro σ2 H2
    simp only [go_sem]
    exact k _ (H2.sub (List.nil_sublist _))
  simp only [go_sem, c1, c2]
  refine k_loop1 (b := b) (r := hp) (by omega) hA ss.length 0 N [] none (some 0) h1 [] σ1 (by omega) (by omega) (by simp) hB1 (by simpa [strs] using Vec.nil 1) H1 ?_
  intro σ2 left o2 c2 h2 hv2 hl2 hB2 hV2 H2
  simp only [go_sem]
  refine k_loop2 (b := b) (r := hl) (by omega) hP hN ps.length 0 N left o2 c2 h2 hv2 σ2 (by omega) (by omega) hl2 hB2 hV2 ?_ ?_
  · refine H2.perm ?_
    exact (((List.perm_append_comm (l₁ := hl) (l₂ := hp)).append_left hv2).append_left h2)
  intro σ3 left o3 c3 h3 hv3 hl3 hB3 hV3 H3
  simp only [go_sem]
  refine k_loop4 (b := b) (r := hp ++ hl) hl3 hB3 hV3 left.length 0 N σ3 (by omega) (by omega) H3 ?_
  intro σ4 H4
  obtain ⟨v, hs, rfl, hv⟩ := hB3
  obtain ⟨o, c, rfl⟩ := hv.sl
  have hg : σ4.get b = _ := H4.g1
  simp only [List.length_map] at hg
  simp only [go_sem, len_eq hg]
  refine three_ok H4 ?_
  intro σ5 H5
  simp only [go_sem]
  exact k _ (H5.sub (List.nil_sublist _))

end Go.Proofs.Ytdebkakkeaanaaa
