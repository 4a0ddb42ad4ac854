/- One step, done by both: taking away, putting off, looking. -/
import Derived.Test.YtciibgjmdgpgnaaH18
namespace Go.Proofs.Ytciibgjmdgpgnaa
open Go.AM
set_option maxRecDepth 100000
set_option linter.unusedSimpArgs false
set_option linter.unusedVariables false
variable {N d : Nat} {dem : Bool} {σ : St} {K : AV → St → Option Unit} {b w n : Nat} {now nw : Int} {V : List Tm} {D S : List Int} {r : Hp}

theorem set_same {l : List Int} {i : Nat} {x : Int} (hi : i < l.length) (h : gi l i = x) : l.set i x = l := by
  apply List.ext_getElem?
  intro j
  rw [List.getElem?_set]
  by_cases hj : i = j
  · subst hj; rw [if_pos rfl, if_pos hi, gi_at hi, h]
  · rw [if_neg hj]

theorem BW.live_due (H : BW σ b w now nw V D S n r) {k : Int} (hl : liveB V k = true) : 1 ≤ gi (dues V) k.toNat ∧ gi (dues V) k.toNat = (lf V k.toNat).due ∧ 0 < (lf V k.toNat).span := by
  obtain ⟨turn, o, c, L, hv, hI, hL, h0, h1, W, hD, hS, H⟩ := H
  have hh := liveB_nm hl
  have hz := hI.zero_or hl
  have hV := hI.v
  have e : gi (dues V) k.toNat = (lf V k.toNat).due := by rw [gi_dues (by omega), if_pos (by omega)]
  refine ⟨?_, e, by omega⟩
  rw [e]
  rcases hI.pos k.toNat (by omega) with h | h
  · have := hz.1; rw [h] at this; simp [Tm.zero] at this
  · exact h
theorem BW.dead_due (H : BW σ b w now nw V D S n r) {k : Int} (h : nm k = true) (hl : liveB V k = false) : gi (dues V) k.toNat = -1 := by
  obtain ⟨turn, o, c, L, hv, hI, hL, h0, h1, W, hD, hS, H⟩ := H
  have hh : 0 ≤ k ∧ k ≤ 15 := of_decide_eq_true h
  have hV := hI.v
  unfold liveB at hl
  rw [h, Bool.true_and] at hl
  rw [gi_dues (by omega), if_neg (of_decide_eq_false hl)]

theorem does_off (H : BW σ b w now now V (dues V) S n r) (hrel : ∀ k, k < 16 → 0 < (lf V k).span → gi S k = (lf V k).span) {name sp : Int}
    (kont : ∀ σ', BS σ' b w (n + 1) r → K (.bool true) σ' = some ()) :
    callK Try.prog N ann (d + 6) dem 16 [.ptr (some (b, 0)), .ptr (some (w, 0)), .agg [.int .i64 2, .int .i64 name, .int .i64 sp]] σ K = some () := by
  have H1 := H.loc (.cells [.int .i64 2, .int .i64 name, .int .i64 sp] true)
  have hs := H1.right.g1
  rw [go 16, f16_eq]
  obtain ⟨hV, _, hS, h0, h1⟩ := H.lens
  cases hn : nm name with
  | false =>
    simp only [go_sem, hs, off_bad hn, roff_bad hn]
    exact kont _ ⟨now, V, S, H1.drop1.mono (by omega), hrel⟩
  | true =>
    have hh : 0 ≤ name ∧ name ≤ 15 := of_decide_eq_true hn
    cases hl : liveB V name with
    | false =>
      obtain ⟨x1, x2, hb⟩ := H1.getB
      have hd := H.dead_due hn hl
      simp only [go_sem, hs]
      rw [off_dead hb hV hn hl]
      simp only [go_sem, hs]
      refine BW.roff (d := d + 3) H1 hn ?_
      intro σ2 H2
      have e : decide (gi (dues V) name.toNat ≥ 0) = false := by rw [hd]; decide
      simp only [go_sem, e]
      rw [set_same (by rw [dues_len]; omega) hd] at H2
      exact kont _ ⟨now, V, S, H2.drop1.mono (by omega), hrel⟩
    | true =>
      have hd := H.live_due hl
      simp only [go_sem, hs]
      refine BW.off (d := d + 2) H1 hn hl ?_
      intro σ2 H2
      have hs2 := H2.right.g1
      simp only [go_sem, hs2]
      refine BW.roff (d := d + 3) H2 hn ?_
      intro σ3 H3
      have e : decide (gi (dues V) name.toNat ≥ 0) = true := decide_eq_true (by omega)
      simp only [go_sem, e]
      have e2 : dues (V.set name.toNat Tm.zero) = (dues V).set name.toNat (-1) := by rw [dues_set]; rfl
      rw [← e2] at H3
      refine kont _ ⟨now, _, S, H3.drop1.mono (by omega), ?_⟩
      intro k hk hp
      rw [lf_set (by omega)] at hp ⊢
      by_cases e : k = name.toNat
      · rw [if_pos e] at hp; simp [Tm.zero] at hp
      · rw [if_neg e] at hp ⊢; exact hrel k hk hp

theorem does_double (H : BW σ b w now now V (dues V) S n r) (hrel : ∀ k, k < 16 → 0 < (lf V k).span → gi S k = (lf V k).span) (hn : n ≤ 80000) (hN : n + 1 < N) {name sp : Int}
    (kont : ∀ σ', BS σ' b w (n + 1) r → K (.bool true) σ' = some ()) :
    callK Try.prog N ann (d + 6) dem 16 [.ptr (some (b, 0)), .ptr (some (w, 0)), .agg [.int .i64 3, .int .i64 name, .int .i64 sp]] σ K = some () := by
  have H1 := H.loc (.cells [.int .i64 3, .int .i64 name, .int .i64 sp] true)
  have hs := H1.right.g1
  rw [go 16, f16_eq]
  obtain ⟨hV, _, hS, h0, h1⟩ := H.lens
  cases hnm : nm name with
  | false =>
    simp only [go_sem, hs, double_bad hnm, rdouble_bad hnm]
    exact kont _ ⟨now, V, S, H1.drop1.mono (by omega), hrel⟩
  | true =>
    have hh : 0 ≤ name ∧ name ≤ 15 := of_decide_eq_true hnm
    cases hl : liveB V name with
    | false =>
      obtain ⟨x1, x2, hb⟩ := H1.getB
      have hd := H.dead_due hnm hl
      simp only [go_sem, hs]
      rw [double_dead hb hV hnm hl]
      simp only [go_sem, hs]
      rw [rdouble_dead (by rw [dues_len]; exact hV) H1.getW hnm (by omega)]
      simp only [go_sem]
      exact kont _ ⟨now, V, S, H1.drop1.mono (by omega), hrel⟩
    | true =>
      have hd := H.live_due hl
      have hsp := H.span hl
      have hg := hrel name.toNat (by omega) (by omega)
      simp only [go_sem, hs]
      refine BW.double H1 hn hN hl ?_
      intro σ2 t H2
      have hs2 := H2.right.g1
      simp only [go_sem, hs2]
      refine BW.rdouble (d := d + 2) H2 hnm (by omega) (by omega) (by omega) ?_
      intro σ3 H3
      rw [hg] at H3 ⊢
      simp only [go_sem]
      have hp : 0 < dbl (lf V name.toNat).span := by unfold dbl; split <;> omega
      have e : dues (V.set name.toNat ⟨name, now + dbl (lf V name.toNat).span, dbl (lf V name.toNat).span, t⟩) = (dues V).set name.toNat (now + dbl (lf V name.toNat).span) := by rw [dues_set, if_pos hp]
      rw [← e] at H3
      exact kont σ3 ⟨now, _, _, H3.drop1, BS.setV hV hS hrel (by omega) ⟨name, now + dbl (lf V name.toNat).span, dbl (lf V name.toNat).span, t⟩⟩

end Go.Proofs.Ytciibgjmdgpgnaa

namespace Go.Proofs.Ytciibgjmdgpgnaa
open Go.AM
set_option maxRecDepth 100000
set_option linter.unusedSimpArgs false
set_option linter.unusedVariables false
variable {N d : Nat} {dem : Bool} {σ : St} {K : AV → St → Option Unit} {b w n : Nat} {now nw : Int} {V : List Tm} {D S : List Int} {r : Hp}

theorem TickD.len {now : Int} {D D' ns : List Int} (h : TickD now D ns D') : D.length = 16 → ns.length ≤ D.countP (fun x => decide (0 ≤ x)) := by
  induction h with
  | stop _ => intro _; simp
  | @step D D' ns k hk h0 h1 hm _ ih =>
    intro hD
    have hkl : k < D.length := by omega
    have e : D[k] = gi D k := by simp [gi, hkl]
    have := ih (by simpa using hD)
    rw [List.countP_set hkl] at this
    have p1 : (decide (0 ≤ D[k])) = true := decide_eq_true (by omega)
    have p2 : 0 < D.countP (fun x => decide (0 ≤ x)) := List.countP_pos_iff.2 ⟨D[k], List.getElem_mem hkl, p1⟩
    rw [if_pos p1, if_neg (by decide)] at this
    simp only [List.length_cons]
    omega
theorem TickD.len16 {now : Int} {D D' ns : List Int} (h : TickD now D ns D') (hD : D.length = 16) : ns.length ≤ 16 := by
  have := h.len hD
  have := List.countP_le_length (p := fun x => decide (0 ≤ x)) (l := D)
  omega

theorem does_tick (H : BW σ b w now now V (dues V) S n r) (hrel : ∀ k, k < 16 → 0 < (lf V k).span → gi S k = (lf V k).span) (hn : n ≤ 80000) (hN : n + 100 < N) {name sp : Int}
    (kont : ∀ σ', BS σ' b w (n + 1) r → K (.bool true) σ' = some ()) :
    callK Try.prog N ann (d + 6) dem 16 [.ptr (some (b, 0)), .ptr (some (w, 0)), .agg [.int .i64 4, .int .i64 name, .int .i64 sp]] σ K = some () := by
  have H1 := H.loc (.cells [.int .i64 4, .int .i64 name, .int .i64 sp] true)
  have hs := H1.right.g1
  rw [go 16, f16_eq]
  obtain ⟨hV, _, hS, h0, h1⟩ := H.lens
  have e0 : decide (([] : List Int) = []) = true := rfl
  by_cases ok : 0 ≤ sp ∧ sp ≤ 4096
  · by_cases hl : now > 1099511627776 - sp
    · obtain ⟨x1, x2, hb⟩ := H1.getB
      simp only [go_sem, hs]
      rw [tick_long hb ok hl]
      simp only [go_sem, hs]
      rw [rtick_long H1.getW ok hl]
      simp only [go_sem]
      refine ints_ok (xs := []) (ys := []) (Or.inl rfl) (Or.inl rfl) (by simp) (by simp; omega) ?_
      simp only [go_sem, e0]
      exact kont _ ⟨now, V, S, H1.drop1.mono (by omega), hrel⟩
    · simp only [go_sem, hs]
      refine BW.tick H1 hn (by omega) ok (by omega) ?_
      intro σ2 V' ms o2 c2 hv2 hT hsame WW H2
      have hs2 := H2.drop.right.g1
      have hms := hT.len16 (by rw [dues_len]; exact hV)
      simp only [go_sem, hs2]
      refine BW.rtick (d := d + 3) H2 (by omega) (by omega) (by omega) h0 ok (by omega) hT ?_
      intro σ3 o3 c3 hv3 WW3 H3
      have ia3 : IA σ3 o3 ms := IA.of WW3 H3.right
      have ia2 : IA σ3 o2 ms := IA.of WW H3.drop.right
      simp only [go_sem]
      refine ints_ok ia2 ia3 (by omega) (by omega) ?_
      have e1 : decide (ms = ms) = true := decide_eq_true rfl
      simp only [go_sem, e1]
      refine kont _ ⟨now + sp, V', S, H3.drop.drop.drop1.mono (by omega), ?_⟩
      intro k hk hp
      rcases hsame k hk with h | h
      · rw [h] at hp; simp [Tm.zero] at hp
      · rw [h] at hp ⊢; exact hrel k hk hp
  · have hbt : sp < 0 ∨ sp > 4096 := by omega
    simp only [go_sem, hs, tick_bad hbt, rtick_bad hbt]
    refine ints_ok (xs := []) (ys := []) (Or.inl rfl) (Or.inl rfl) (by simp) (by simp; omega) ?_
    simp only [go_sem, e0]
    exact kont _ ⟨now, V, S, H1.drop1.mono (by omega), hrel⟩

theorem does_other (H : BW σ b w now now V (dues V) S n r) (hrel : ∀ k, k < 16 → 0 < (lf V k).span → gi S k = (lf V k).span) {what name sp : Int} (hw : what ≠ 0 ∧ what ≠ 1 ∧ what ≠ 2 ∧ what ≠ 3 ∧ what ≠ 4)
    (kont : ∀ σ', BS σ' b w (n + 1) r → K (.bool true) σ' = some ()) :
    callK Try.prog N ann (d + 6) dem 16 [.ptr (some (b, 0)), .ptr (some (w, 0)), .agg [.int .i64 what, .int .i64 name, .int .i64 sp]] σ K = some () := by
  have H1 := H.loc (.cells [.int .i64 what, .int .i64 name, .int .i64 sp] true)
  have hs := H1.right.g1
  rw [go 16, f16_eq]
  have e0 : (what == 0) = false := by simp [hw.1]
  have e1 : (what == 1) = false := by simp [hw.2.1]
  have e2 : (what == 2) = false := by simp [hw.2.2.1]
  have e3 : (what == 3) = false := by simp [hw.2.2.2.1]
  have e4 : (what == 4) = false := by simp [hw.2.2.2.2]
  simp only [go_sem, hs, e0, e1, e2, e3, e4]
  exact kont _ ⟨now, V, S, H1.drop1.mono (by omega), hrel⟩

theorem does_ok (H : BS σ b w n r) (hn : n ≤ 80000) (hN : n + 100 < N) {what name sp : Int} (kont : ∀ σ', BS σ' b w (n + 1) r → K (.bool true) σ' = some ()) :
    callK Try.prog N ann (d + 6) dem 16 [.ptr (some (b, 0)), .ptr (some (w, 0)), .agg [.int .i64 what, .int .i64 name, .int .i64 sp]] σ K = some () := by
  obtain ⟨now, V, S, H, hrel⟩ := H
  by_cases h0 : what = 0 ∨ what = 1
  · exact does_set H hrel hn (by omega) h0 kont
  by_cases h2 : what = 2
  · subst h2; exact does_off H hrel kont
  by_cases h3 : what = 3
  · subst h3; exact does_double H hrel hn (by omega) kont
  by_cases h4 : what = 4
  · subst h4; exact does_tick H hrel hn hN kont
  exact does_other H hrel ⟨fun h => h0 (.inl h), fun h => h0 (.inr h), h2, h3, h4⟩ kont

end Go.Proofs.Ytciibgjmdgpgnaa
