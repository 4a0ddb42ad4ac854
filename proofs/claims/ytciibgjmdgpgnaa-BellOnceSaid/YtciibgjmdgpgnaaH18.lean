/- A bell and its reference side by side. -/
import Derived.Test.YtciibgjmdgpgnaaH16
import Derived.Test.YtciibgjmdgpgnaaBeDoes
namespace Go.Proofs.Ytciibgjmdgpgnaa
open Go.AM
set_option maxRecDepth 100000
set_option linter.unusedSimpArgs false
set_option linter.unusedVariables false
variable {N d : Nat} {dem : Bool} {σ : St} {K : AV → St → Option Unit}

theorem permW {α : Type} (p q : α) (a r : List α) : (p :: (a ++ (q :: r))).Perm (q :: (p :: (a ++ r))) :=
  (List.perm_middle.cons p).trans (List.Perm.swap _ _ _)
theorem permB {α : Type} (q : α) (a b r : List α) : (a ++ (b ++ (q :: r))).Perm (a ++ (q :: (b ++ r))) :=
  List.perm_middle.append_left a

/-- A bell (at b, with what is behind it) and a reference bell (at w); n: how many times at most a timer was hung up. -/
def BW (σ : St) (b w : Nat) (now nw : Int) (V : List Tm) (D S : List Int) (n : Nat) (r : Hp) : Prop :=
  ∃ (turn : Int) (o : Option (Nat × Nat)) (c : Option Nat) (L : List Tm) (hv : Hp), BI V L ∧ L.length ≤ n ∧ 0 ≤ now ∧ now ≤ 2 ^ 40 ∧ Vec 4 (.slice o L.length c 4) L.length (tflat L) hv ∧ D.length = 16 ∧ S.length = 16 ∧
    HasH σ ((b, .cells (.int .i64 now :: .int .i64 turn :: .slice o L.length c 4 :: tflat V) true) :: (hv ++ ((w, .cells (rb nw D S) true) :: r)))

variable {b w n : Nat} {now nw : Int} {V : List Tm} {D S : List Int} {r : Hp}

theorem BW.right (H : BW σ b w now nw V D S n r) : HasH σ r := by
  obtain ⟨turn, o, c, L, hv, hI, hL, h0, h1, W, hD, hS, H⟩ := H
  exact (H.perm (permW _ _ _ _)).tail.tail.sub (List.sublist_append_right _ _)
theorem BW.getW (H : BW σ b w now nw V D S n r) : σ.get w = some (.cells (rb nw D S) true) := by
  obtain ⟨turn, o, c, L, hv, hI, hL, h0, h1, W, hD, hS, H⟩ := H
  exact (H.perm (permW _ _ _ _)).g1
theorem BW.getB (H : BW σ b w now nw V D S n r) : ∃ x1 x2, σ.get b = some (.cells (.int .i64 now :: x1 :: x2 :: tflat V) true) := by
  obtain ⟨turn, o, c, L, hv, hI, hL, h0, h1, W, hD, hS, H⟩ := H
  exact ⟨_, _, H.g1⟩
theorem BW.lens (H : BW σ b w now nw V D S n r) : V.length = 16 ∧ D.length = 16 ∧ S.length = 16 ∧ 0 ≤ now ∧ now ≤ 2 ^ 40 := by
  obtain ⟨turn, o, c, L, hv, hI, hL, h0, h1, W, hD, hS, H⟩ := H
  exact ⟨hI.v, hD, hS, h0, h1⟩
theorem BW.span (H : BW σ b w now nw V D S n r) {k : Int} (hl : liveB V k = true) : 1 ≤ (lf V k.toNat).span ∧ (lf V k.toNat).span ≤ 4096 := by
  obtain ⟨turn, o, c, L, hv, hI, hL, h0, h1, W, hD, hS, H⟩ := H
  exact ⟨(hI.zero_or hl).1, (hI.zero_or hl).2.1⟩

theorem BW.set (H : BW σ b w now nw V D S n r) (hn : n ≤ 80000) (hN : n + 1 < N) {name span : Int} (h : 0 ≤ name ∧ name ≤ 15 ∧ 1 ≤ span ∧ span ≤ 4096)
    (kont : ∀ σ' t, BW σ' b w now nw (V.set name.toNat ⟨name, now + span, span, t⟩) D S (n + 1) r → K (.int .i64 0) σ' = some ()) :
    callK Try.prog N ann (d + 4) dem 9 [.ptr (some (b, 0)), .int .i64 name, .int .i64 span] σ K = some () := by
  obtain ⟨turn, o, c, L, hv, hI, hL, h0, h1, W, hD, hS, H⟩ := H
  refine set_ok hI (by omega) (by omega) h0 h1 W H h ?_
  intro σ' o' c' hv' L' turn' g1 g2 g3 g4
  exact kont σ' turn' ⟨turn', o', c', L', hv', g2, by omega, h0, h1, g3, hD, hS, g4⟩

theorem BW.rset (H : BW σ b w now now V D S n r) {name span : Int} (h : 0 ≤ name ∧ name ≤ 15 ∧ 1 ≤ span ∧ span ≤ 4096)
    (kont : ∀ σ', BW σ' b w now now V (D.set name.toNat (now + span)) (S.set name.toNat span) n r → K (.int .i64 0) σ' = some ()) :
    callK Try.prog N ann (d + 2) dem 25 [.ptr (some (w, 0)), .int .i64 name, .int .i64 span] σ K = some () := by
  obtain ⟨turn, o, c, L, hv, hI, hL, h0, h1, W, hD, hS, H⟩ := H
  refine rset_ok hD hS h0 h1 (H.perm (permW _ _ _ _)) h ?_
  intro σ' H'
  exact kont σ' ⟨turn, o, c, L, hv, hI, hL, h0, h1, W, by simpa using hD, by simpa using hS, H'.perm (permW _ _ _ _).symm⟩

theorem BW.off (H : BW σ b w now nw V D S n r) {k : Int} (h : nm k = true) (hl : liveB V k = true)
    (kont : ∀ σ', BW σ' b w now nw (V.set k.toNat Tm.zero) D S n r → K (.tuple [.bool true, .int .i64 0]) σ' = some ()) :
    callK Try.prog N ann (d + 3) dem 14 [.ptr (some (b, 0)), .int .i64 k] σ K = some () := by
  obtain ⟨turn, o, c, L, hv, hI, hL, h0, h1, W, hD, hS, H⟩ := H
  refine off_live H hI.v h hl ?_
  intro σ' H'
  exact kont σ' ⟨turn, o, c, L, hv, hI.clr _, hL, h0, h1, W, hD, hS, H'⟩

theorem BW.roff (H : BW σ b w now nw V D S n r) {k : Int} (h : nm k = true)
    (kont : ∀ σ', BW σ' b w now nw V (D.set k.toNat (-1)) S n r → K (.tuple [.bool (decide (gi D k.toNat ≥ 0)), .int .i64 0]) σ' = some ()) :
    callK Try.prog N ann (d + 2) dem 26 [.ptr (some (w, 0)), .int .i64 k] σ K = some () := by
  obtain ⟨turn, o, c, L, hv, hI, hL, h0, h1, W, hD, hS, H⟩ := H
  refine roff_ok hD hS (H.perm (permW _ _ _ _)) h ?_
  intro σ' H'
  exact kont σ' ⟨turn, o, c, L, hv, hI, hL, h0, h1, W, by simpa using hD, hS, H'.perm (permW _ _ _ _).symm⟩

theorem BW.double (H : BW σ b w now nw V D S n r) (hn : n ≤ 80000) (hN : n + 1 < N) {k : Int} (hl : liveB V k = true)
    (kont : ∀ σ' t, BW σ' b w now nw (V.set k.toNat ⟨k, now + dbl (lf V k.toNat).span, dbl (lf V k.toNat).span, t⟩) D S (n + 1) r → K (.tuple [.int .i64 (dbl (lf V k.toNat).span), .int .i64 0]) σ' = some ()) :
    callK Try.prog N ann (d + 5) dem 10 [.ptr (some (b, 0)), .int .i64 k] σ K = some () := by
  obtain ⟨turn, o, c, L, hv, hI, hL, h0, h1, W, hD, hS, H⟩ := H
  refine double_live hI (by omega) (by omega) h0 h1 W H hl ?_
  intro σ' o' c' hv' L' turn' g1 g2 g3 g4
  exact kont σ' turn' ⟨turn', o', c', L', hv', g2, by omega, h0, h1, g3, hD, hS, g4⟩

theorem BW.rdouble (H : BW σ b w now now V D S n r) {k : Int} (h : nm k = true) (hl : 0 ≤ gi D k.toNat) (hs1 : 1 ≤ gi S k.toNat) (hs2 : gi S k.toNat ≤ 4096)
    (kont : ∀ σ', BW σ' b w now now V (D.set k.toNat (now + dbl (gi S k.toNat))) (S.set k.toNat (dbl (gi S k.toNat))) n r → K (.tuple [.int .i64 (dbl (gi S k.toNat)), .int .i64 0]) σ' = some ()) :
    callK Try.prog N ann (d + 3) dem 27 [.ptr (some (w, 0)), .int .i64 k] σ K = some () := by
  obtain ⟨turn, o, c, L, hv, hI, hL, h0, h1, W, hD, hS, H⟩ := H
  refine rdouble_live hD hS h0 h1 (H.perm (permW _ _ _ _)) h hl hs1 hs2 ?_
  intro σ' H'
  exact kont σ' ⟨turn, o, c, L, hv, hI, hL, h0, h1, W, by simpa using hD, by simpa using hS, H'.perm (permW _ _ _ _).symm⟩

theorem BW.tick (H : BW σ b w now nw V D S n r) (hn : n ≤ 80000) (hN : n + 1 < N) {by_ : Int} (h : 0 ≤ by_ ∧ by_ ≤ 4096) (hl : now ≤ 1099511627776 - by_)
    (kont : ∀ σ' V' ms o2 c2 hv2, TickD (now + by_) (dues V) ms (dues V') → (∀ k, k < 16 → lf V' k = Tm.zero ∨ lf V' k = lf V k) → Vec 1 (.slice o2 ms.length c2 1) ms.length (ints ms) hv2 → BW σ' b w (now + by_) nw V' D S n (hv2 ++ r) →
      K (.tuple [.slice o2 ms.length c2 1, .int .i64 0]) σ' = some ()) :
    callK Try.prog N ann (d + 5) dem 13 [.ptr (some (b, 0)), .int .i64 by_] σ K = some () := by
  obtain ⟨turn, o, c, L, hv, hI, hL, h0, h1, W, hD, hS, H⟩ := H
  refine tick_ok hI (by omega) (by omega) h0 W H h hl ?_
  intro σ' o' c' hv' V' L' ms o2 c2 hv2 q1 q2 q3 q4 q5 q6 q7
  exact kont σ' V' ms o2 c2 hv2 q3 q4 q6 ⟨turn, o', c', L', hv', q2, by omega, by omega, by omega, q5, hD, hS, q7.perm ((permB _ _ _ _).cons _)⟩

theorem BW.rtick (H : BW σ b w now nw V D S n r) (hN : 16 < N) {by_ : Int} {D' ns : List Int} (hn : ns.length < N) (hn2 : ns.length ≤ 1000000) (h0 : 0 ≤ nw) (h : 0 ≤ by_ ∧ by_ ≤ 4096) (hl : nw ≤ 1099511627776 - by_) (hT : TickD (nw + by_) D ns D')
    (kont : ∀ σ' o c hv, Vec 1 (.slice o ns.length c 1) ns.length (ints ns) hv → BW σ' b w now (nw + by_) V D' S n (hv ++ r) → K (.tuple [.slice o ns.length c 1, .int .i64 0]) σ' = some ()) :
    callK Try.prog N ann (d + 2) dem 28 [.ptr (some (w, 0)), .int .i64 by_] σ K = some () := by
  obtain ⟨turn, o, c, L, hv, hI, hL, h0', h1, W, hD, hS, H⟩ := H
  refine rtick_ok hD hS hN hn hn2 h0 (H.perm (permW _ _ _ _)) h hl hT ?_
  intro σ' o2 c2 hv2 q1 q2 q3
  refine kont σ' o2 c2 hv2 q2 ⟨turn, o, c, L, hv, hI, hL, h0', h1, W, q1, hS, ?_⟩
  have e := q3.perm (((List.perm_middle (l₁ := hv2)).cons _).trans (List.Perm.swap _ _ _))
  exact e.perm (((((List.perm_append_comm_assoc hv2 hv r).cons _).trans List.perm_middle.symm).cons _))

theorem BW.next (H : BW σ b w now nw V D S n r) (hn : n ≤ 80000) (hN : n + 1 < N)
    (kont : ∀ σ' q x, (q = true → 0 ≤ x ∧ NextR (dues V) 16 x) → (q = false → x = 0 ∧ NextR (dues V) 16 (-1)) → BW σ' b w now nw V D S n r → K (.tuple [.int .i64 x, .bool q]) σ' = some ()) :
    callK Try.prog N ann (d + 5) dem 17 [.ptr (some (b, 0))] σ K = some () := by
  obtain ⟨turn, o, c, L, hv, hI, hL, h0, h1, W, hD, hS, H⟩ := H
  refine next_ok (by omega) (by omega) hI W H ?_
  intro σ' o' c' hv' L' q x g1 g2 g3 g4 g5 g6
  refine kont σ' q x ?_ ?_ ⟨turn, o', c', L', hv', g2, by omega, h0, h1, g5, hD, hS, g6⟩
  · intro hq
    obtain ⟨l1, l2, rfl⟩ := g3 hq
    obtain ⟨m0, m1, m2⟩ := g2.ent (lf L' 0) ⟨0, l1, rfl⟩
    have hV := g2.v
    have hgi : gi (dues V) (lf L' 0).name.toNat = (lf L' 0).due := by
      rw [gi_dues (by omega), l2, if_pos (by omega)]
    have hp : 1 ≤ (lf L' 0).due := by
      rcases g2.pos (lf L' 0).name.toNat (by omega) with h | h
      · rw [l2] at h; rw [h] at m2; simp [Tm.zero] at m2
      · rw [l2] at h; exact h
    refine ⟨by omega, .inr ⟨(lf L' 0).name.toNat, by omega, hgi, by omega, ?_⟩⟩
    intro j hj
    rcases g2.least l1 j hj with h | h | h
    · exact .inl h
    · exact .inr (by omega)
    · exact .inr (by omega)
  · intro hq
    obtain ⟨l1, rfl⟩ := g4 hq
    refine ⟨rfl, .inl ⟨rfl, fun j hj => ?_⟩⟩
    rcases hI.live j hj with hz | _
    · rw [gi_dues_zero (by rw [hI.v]; exact hj) hz]; omega
    · rcases g2.live j hj with hz | ⟨_, _, _, i, hi, _⟩
      · rw [gi_dues_zero (by rw [hI.v]; exact hj) hz]; omega
      · omega

end Go.Proofs.Ytciibgjmdgpgnaa

namespace Go.Proofs.Ytciibgjmdgpgnaa
open Go.AM
set_option maxRecDepth 100000
set_option linter.unusedSimpArgs false
set_option linter.unusedVariables false
variable {N d : Nat} {dem : Bool} {σ : St} {K : AV → St → Option Unit} {b w n : Nat} {now nw : Int} {V : List Tm} {D S : List Int} {r : Hp}

theorem BW.loc (H : BW σ b w now nw V D S n r) (y : Blk) : BW (σ.new y) b w now nw V D S n ((σ.next, y) :: r) := by
  obtain ⟨turn, o, c, L, hv, hI, hL, h0, h1, W, hD, hS, H⟩ := H
  refine ⟨turn, o, c, L, hv, hI, hL, h0, h1, W, hD, hS, ?_⟩
  exact (H.new y).perm ((List.Perm.swap _ _ _).trans ((List.perm_middle.symm.trans ((List.Perm.swap _ _ _).append_left hv)).cons _))
theorem BW.drop {h : Hp} (H : BW σ b w now nw V D S n (h ++ r)) : BW σ b w now nw V D S n r := by
  obtain ⟨turn, o, c, L, hv, hI, hL, h0, h1, W, hD, hS, H⟩ := H
  exact ⟨turn, o, c, L, hv, hI, hL, h0, h1, W, hD, hS, H.sub (((List.Sublist.refl hv).append ((List.sublist_append_right _ _).cons_cons _)).cons_cons _)⟩
theorem BW.drop1 {p : Nat × Blk} (H : BW σ b w now nw V D S n (p :: r)) : BW σ b w now nw V D S n r := BW.drop (h := [p]) H
theorem BW.mono {m : Nat} (H : BW σ b w now nw V D S n r) (h : n ≤ m) : BW σ b w now nw V D S m r := by
  obtain ⟨turn, o, c, L, hv, hI, hL, h0, h1, W, hD, hS, H⟩ := H
  exact ⟨turn, o, c, L, hv, hI, by omega, h0, h1, W, hD, hS, H⟩

/-- Both hold the same. -/
def BS (σ : St) (b w n : Nat) (r : Hp) : Prop :=
  ∃ (now : Int) (V : List Tm) (S : List Int), BW σ b w now now V (dues V) S n r ∧ ∀ k, k < 16 → 0 < (lf V k).span → gi S k = (lf V k).span

theorem BS.setV {V : List Tm} {S : List Int} (hV : V.length = 16) (hS : S.length = 16) (h : ∀ k, k < 16 → 0 < (lf V k).span → gi S k = (lf V k).span) {i : Nat} (hi : i < 16) (t : Tm) :
    ∀ k, k < 16 → 0 < (lf (V.set i t) k).span → gi (S.set i t.span) k = (lf (V.set i t) k).span := by
  intro k hk hp
  rw [gi_set (by omega), lf_set (by omega)]
  rw [lf_set (by omega)] at hp
  by_cases e : k = i
  · rw [if_pos e, if_pos e]
  · rw [if_neg e] at hp
    rw [if_neg e, if_neg e]
    exact h k hk hp

theorem does_set (H : BW σ b w now now V (dues V) S n r) (hrel : ∀ k, k < 16 → 0 < (lf V k).span → gi S k = (lf V k).span) (hn : n ≤ 80000) (hN : n + 1 < N) {what name sp : Int} (hw : what = 0 ∨ what = 1)
    (kont : ∀ σ', BS σ' b w (n + 1) r → K (.bool true) σ' = some ()) :
    callK Try.prog N ann (d + 6) dem 16 [.ptr (some (b, 0)), .ptr (some (w, 0)), .agg [.int .i64 what, .int .i64 name, .int .i64 sp]] σ K = some () := by
  have H1 := H.loc (.cells [.int .i64 what, .int .i64 name, .int .i64 sp] true)
  have hs := H1.right.g1
  rw [go 16, f16_eq]
  obtain ⟨hV, _, hS, h0, h1⟩ := H.lens
  by_cases ok : 0 ≤ name ∧ name ≤ 15 ∧ 1 ≤ sp ∧ sp ≤ 4096
  · have fin : ∀ σ3 t, BW σ3 b w now now (V.set name.toNat ⟨name, now + sp, sp, t⟩) ((dues V).set name.toNat (now + sp)) (S.set name.toNat sp) (n + 1) ((σ.next, .cells [.int .i64 what, .int .i64 name, .int .i64 sp] true) :: r) → BS σ3 b w (n + 1) r := by
      intro σ3 t H3
      have e : dues (V.set name.toNat ⟨name, now + sp, sp, t⟩) = (dues V).set name.toNat (now + sp) := by rw [dues_set, if_pos (show 0 < sp by omega)]
      rw [← e] at H3
      exact ⟨now, _, _, H3.drop1, BS.setV hV hS hrel (by omega) ⟨name, now + sp, sp, t⟩⟩
    rcases hw with rfl | rfl
    · simp only [go_sem, hs]
      refine BW.set (d := d + 1) H1 hn hN ok ?_
      intro σ2 t H2
      have hs2 := H2.right.g1
      simp only [go_sem, hs2]
      refine BW.rset (d := d + 3) H2 ok ?_
      intro σ3 H3
      simp only [go_sem]
      exact kont σ3 (fin σ3 t H3)
    · simp only [go_sem, hs]
      refine BW.set (d := d + 1) H1 hn hN ok ?_
      intro σ2 t H2
      have hs2 := H2.right.g1
      simp only [go_sem, hs2]
      refine BW.rset (d := d + 3) H2 ok ?_
      intro σ3 H3
      simp only [go_sem]
      exact kont σ3 (fin σ3 t H3)
  · have fin : BS (σ.new (.cells [.int .i64 what, .int .i64 name, .int .i64 sp] true)) b w (n + 1) r := ⟨now, V, S, H1.drop1.mono (by omega), hrel⟩
    rcases hw with rfl | rfl
    · simp only [go_sem, hs, set_bad ok, rset_bad ok]
      exact kont _ fin
    · simp only [go_sem, hs, set_bad ok, rset_bad ok]
      exact kont _ fin

end Go.Proofs.Ytciibgjmdgpgnaa
