/- Heaps in memory: Push, Pop. -/
import Derived.Test.YtciibgjmdgpgnaaH3
namespace Go.Proofs.Ytciibgjmdgpgnaa
open Go.AM
set_option maxRecDepth 100000
set_option linter.unusedSimpArgs false
set_option linter.unusedVariables false
variable {N d : Nat} {dem : Bool} {σ : St} {K : AV → St → Option Unit}

theorem push_ok {b : Nat} {x0 x1 : AV} {rest : List AV} {o : Option (Nat × Nat)} {c : Option Nat} {L : List Tm} {hv r : Hp} (hL : L.length ≤ 90000) (hN : L.length + 1 < N) (hF : HeapF (lf L) L.length)
    (V : Vec 4 (.slice o L.length c 4) L.length (tflat L) hv) (H : HasH σ ((b, .cells (x0 :: x1 :: .slice o L.length c 4 :: rest) true) :: (hv ++ r))) (t : Tm)
    (kont : ∀ σ' o' c' hv' L', L'.length = L.length + 1 → HeapF (lf L') (L.length + 1) → (∀ s, InF (lf L') (L.length + 1) s ↔ s = t ∨ InF (lf L) L.length s) → Vec 4 (.slice o' L'.length c' 4) L'.length (tflat L') hv' →
      HasH σ' ((b, .cells (x0 :: x1 :: .slice o' L'.length c' 4 :: rest) true) :: (hv' ++ r)) → K (.tuple []) σ' = some ()) :
    callK Try.prog N ann (d + 3) dem 21 [.iface 59 (.ptr (some (b, 2))), .iface 52 (.agg t.cells)] σ K = some () := by
  have hb : σ.get b = _ := H.g1
  have nb : (b = σ.next) = False := eq_false (by have := H.l1; omega)
  simp only [Tm.cells]
  rw [go 21, f21_eq]
  simp only [go_sem]
  rw [go 53, f53_eq]
  obtain ⟨o', c', σ1, hv', happ, V', H1⟩ := V.app (bytes := 32) (k := 1) (news := [.int .i64 t.name, .int .i64 t.due, .int .i64 t.span, .int .i64 t.turn]) ((H.new' (.cells [.int .i64 t.name, .int .i64 t.due, .int .i64 t.span, .int .i64 t.turn] true)).down) (by decide) (by decide) rfl (by omega)
  have hb1 : σ1.get b = _ := H1.up.g1
  simp only [go_sem, hb, nb, elems_pos (show 1 ≠ 0 by decide), happ, hb1, len_eq]
  have w1 : IntKind.i64.wrap (((L.length + 1 : Nat) : Int) - 1) = (L.length : Int) := by rw [wrap_small (by omega) (by omega)]; omega
  have hlen : (L ++ [t]).length = L.length + 1 := by simp
  have V2 : Vec 4 (.slice o' (L.length + 1) c' 4) (L.length + 1) (tflat (L ++ [t])) hv' := by simpa [tflat, Tm.cells] using V'
  obtain ⟨_, bk, junk, rfl, rfl, hcap⟩ := V2.row (show L.length + 1 ≠ 0 by omega)
  have e1 : ∀ k, k < L.length → lf (L ++ [t]) k = lf L k := fun k hk => by unfold lf; rw [List.getElem?_append_left hk]
  have e2 : lf (L ++ [t]) L.length = t := by simp [lf]
  have hU : UpI (lf (L ++ [t])) (L.length + 1) L.length := UpI.push (hF.congr e1)
  have H2 := H1.up.put (.cells (x0 :: x1 :: .slice (some (bk, 0)) (L.length + 1) c' 4 :: rest) true)
  simp only [w1]
  refine up_ok (b := b) (bk := bk) (n := L.length + 1) (by omega) (by omega) (by omega) hlen hU H2.rot ?_
  intro σ' L' h1 h2 h3 h4
  simp only [go_sem]
  have hin : ∀ s, InF (lf (L ++ [t])) (L.length + 1) s ↔ s = t ∨ InF (lf L) L.length s := by
    intro s
    constructor
    · rintro ⟨k, hk, rfl⟩
      by_cases hkn : k = L.length
      · subst hkn; exact .inl e2
      · exact .inr ⟨k, by omega, (e1 k (by omega)).symm⟩
    · rintro (rfl | ⟨k, hk, rfl⟩)
      · exact ⟨L.length, by omega, e2⟩
      · exact ⟨k, by omega, e1 k hk⟩
  refine kont σ' (some (bk, 0)) c' [(bk, .cells (tflat L' ++ junk) true)] L' h1 h2 (fun s => (h3 s).trans (hin s)) ?_ (by rw [h1]; exact h4.rot)
  refine ⟨tflat_len L', .inr ⟨bk, c', junk, rfl, rfl, ?_⟩⟩
  rcases hcap with h | ⟨k, hk, hk2⟩
  · exact .inl h
  · refine .inr ⟨k, hk, ?_⟩
    rw [hk2, List.length_append, List.length_append, tflat_len, tflat_len, h1, hlen]

theorem down_ok {b bk : Nat} {x0 x1 : AV} {rest junk : List AV} {c : Option Nat} {r : Hp} {m n : Nat} (hn : m ≤ 100000) (hm : n ≤ m) {L : List Tm} (hN : n < N) (hL : L.length = m) (hD : DownI (lf L) n 0)
    (H : HasH σ ((bk, .cells (tflat L ++ junk) true) :: (b, .cells (x0 :: x1 :: .slice (some (bk, 0)) m c 4 :: rest) true) :: r))
    (kont : ∀ σ' L' (q : Bool), L'.length = m → HeapF (lf L') n → (∀ t, InF (lf L') n t ↔ InF (lf L) n t) → (∀ q, n ≤ q → q < m → lf L' q = lf L q) → HasH σ' ((bk, .cells (tflat L' ++ junk) true) :: (b, .cells (x0 :: x1 :: .slice (some (bk, 0)) m c 4 :: rest) true) :: r) →
      K (.bool q) σ' = some ()) :
    callK Try.prog N ann (d + 2) dem 30 [.iface 59 (.ptr (some (b, 2))), .int .i64 0, .int .i64 n] σ K = some () := by
  rw [go 30, f30_eq]
  simp only [go_sem]
  refine down_loop (i0 := 0) hn hm n 0 N L σ (by omega) (by omega) hL hD (by omega) H ?_
  intro σ' L' i' h1 h2 h3 h4 h5
  simp only [go_sem]
  exact kont σ' L' _ h1 h2 h3 h4 h5

theorem one_iface (t : TypeId) (v : AV) : AV.one (.iface t v) = true := rfl

theorem pop_ok {b : Nat} {x0 x1 : AV} {rest : List AV} {o : Option (Nat × Nat)} {c : Option Nat} {L : List Tm} {hv r : Hp} {n : Nat} (hn : L.length = n + 1) (hL : L.length ≤ 90000) (hN : L.length + 1 < N) (hF : HeapF (lf L) L.length)
    (V : Vec 4 (.slice o L.length c 4) L.length (tflat L) hv) (H : HasH σ ((b, .cells (x0 :: x1 :: .slice o L.length c 4 :: rest) true) :: (hv ++ r)))
    (kont : ∀ σ' o' c' hv' L', L'.length = n → HeapF (lf L') n → (∀ s, InF (lf L) (n + 1) s → s = lf L 0 ∨ InF (lf L') n s) → (∀ s, InF (lf L') n s → InF (lf L) (n + 1) s) → Vec 4 (.slice o' L'.length c' 4) L'.length (tflat L') hv' →
      HasH σ' ((b, .cells (x0 :: x1 :: .slice o' L'.length c' 4 :: rest) true) :: (hv' ++ r)) → K (.iface 52 (.agg (lf L 0).cells)) σ' = some ()) :
    callK Try.prog N ann (d + 3) dem 24 [.iface 59 (.ptr (some (b, 2)))] σ K = some () := by
  obtain ⟨_, bk, junk, rfl, rfl, hcap⟩ := V.row (show L.length ≠ 0 by omega)
  have hb : σ.get b = _ := H.g1
  rw [go 24, f24_eq]
  have w1 : IntKind.i64.wrap ((L.length : Int) - 1) = (n : Int) := by rw [wrap_small (by omega) (by omega)]; omega
  simp only [go_sem, hb, len_eq, w1]
  have z0 : ((0 : Nat) : Int) = 0 := rfl
  refine swap_ok H.rot (i := 0) (j := n) (by omega) (by omega) ?_
  intro σ1 H1
  simp only [go_sem]
  have hl1 := lsw_len L 0 n
  have hD : DownI (lf (lsw L 0 n)) n 0 := by
    have := HeapF.pop (f := lf L) (n := n) (by rw [← hn]; exact hF)
    exact this.congr (fun k hk => lsw_lf (by omega) (by omega) k (by omega))
  refine down_ok (m := L.length) (n := n) (by omega) (by omega) (by omega) hl1 hD H1 ?_
  intro σ2 L2 q h1 h2 h3 h4 H2
  simp only [go_sem]
  rw [go 52, f52_eq]
  have hb2 : σ2.get b = _ := H2.g2
  have hk2 : σ2.get bk = _ := H2.g1
  obtain ⟨a0, a1, a2, a3⟩ := tget (show n < L2.length by omega) junk
  have nb : (b = σ2.next) = False := eq_false (by have := H2.l2; omega)
  have nk : (bk = σ2.next) = False := eq_false (by have := H2.l1; omega)
  have nb' : (σ2.next = b) = False := eq_false (by have := H2.l2; omega)
  have i0 : ((0:Int) ≤ (n : Int)) = True := eq_true (by omega)
  have i1 : ((n : Int) < (L.length : Int)) = True := eq_true (by omega)
  have ti : ((n:Int)).toNat = n := by omega
  have hcn : (n : Int) ≤ c.getD L.length := by
    rcases hcap with h | ⟨k, hk, hk2⟩
    · rw [h]; simp; omega
    · rw [hk]
      rw [List.length_append, tflat_len] at hk2
      simp only [Option.getD_some]
      omega
  have hsub := sub_to (z := 4) (n := L.length) (o := some (bk, 0)) (c := c) (i := (n : Int)) (by omega) hcn
  rw [ti] at hsub
  simp only [go_sem, hb2, hk2, w1, i0, i1, ti, a0, a1, a2, a3, nb, nb', nk, hsub, one_iface]
  have hlast : lf L2 n = lf L 0 := by
    rw [h4 n (Nat.le_refl n) (by omega), lsw_lf (by omega) (by omega) n (by omega)]
    unfold swp
    by_cases hn0 : n = 0
    · subst hn0; simp
    · rw [if_neg hn0, if_pos rfl]
  have hL' : (L2.take n).length = n := by simp; omega
  have elf : ∀ k, k < n → lf (L2.take n) k = lf L2 k := fun k hk => by simp [lf, hk]
  have hflat : tflat L2 ++ junk = tflat (L2.take n) ++ ((tflat (L2.drop n)) ++ junk) := by
    have : tflat L2 = tflat (L2.take n) ++ tflat (L2.drop n) := by
      unfold tflat; rw [← List.flatMap_append, List.take_append_drop]
    rw [this, List.append_assoc]
  rw [hlast]
  have H3 := (((H2.rot.new (.cells [.int .i64 0, .int .i64 0, .int .i64 0, .int .i64 0] true)).put (.cells (lf L2 n).cells true)).put2 (.cells (x0 :: x1 :: .slice (some (bk, 0)) n c 4 :: rest) true)).tail
  simp only [Tm.cells, hlast] at H3
  have hfin := kont _ (some (bk, 0)) c [(bk, .cells (tflat (L2.take n) ++ ((tflat (L2.drop n)) ++ junk)) true)] (L2.take n) hL' (h2.congr elf) ?_ ?_ ⟨tflat_len _, .inr ⟨bk, c, _, rfl, rfl, ?_⟩⟩ (by rw [hL', ← hflat]; exact H3)
  · simpa only [Tm.cells, hL'] using hfin
  · rintro s ⟨k, hk, rfl⟩
    by_cases hk0 : k = 0
    · subst hk0; exact .inl rfl
    · right
      have : InF (lf (lsw L 0 n)) n (lf L k) := by
        by_cases hkn : k = n
        · subst hkn
          exact ⟨0, by omega, by rw [lsw_lf (by omega) (by omega) 0 (by omega)]; unfold swp; rw [if_pos rfl]⟩
        · exact ⟨k, by omega, by rw [lsw_lf (by omega) (by omega) k (by omega)]; unfold swp; rw [if_neg hk0, if_neg hkn]⟩
      exact (InF.congr elf _).2 ((h3 _).2 this)
  · intro s hs
    obtain ⟨k, hk, rfl⟩ := (h3 s).1 ((InF.congr elf s).1 hs)
    rw [lsw_lf (by omega) (by omega) k (by omega)]
    have : InF (swp (lf L) 0 n) (n + 1) (swp (lf L) 0 n k) := ⟨k, by omega, rfl⟩
    exact (swp_in (by omega) (by omega) _).1 this
  · rcases hcap with h | ⟨k, hk, hk2⟩
    · exact .inl h
    · refine .inr ⟨k, hk, ?_⟩
      rw [hk2, ← hflat, List.length_append, List.length_append, tflat_len, tflat_len, h1]

end Go.Proofs.Ytciibgjmdgpgnaa
