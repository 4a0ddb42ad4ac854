/- A bell beside other blocks. -/
import Derived.Test.YtciibgjmdgpgnaaH20
import Derived.Test.YtciibgjmdgpgnaaBeOnce
namespace Go.Proofs.Ytciibgjmdgpgnaa
open Go.AM
set_option maxRecDepth 100000
set_option linter.unusedSimpArgs false
set_option linter.unusedVariables false
variable {N d : Nat} {dem : Bool} {σ : St} {K : AV → St → Option Unit} {b n : Nat} {now : Int} {V : List Tm} {r : Hp}

def BX (σ : St) (b : Nat) (now : Int) (V : List Tm) (n : Nat) (r : Hp) : Prop :=
  ∃ (turn : Int) (o : Option (Nat × Nat)) (c : Option Nat) (L : List Tm) (hv : Hp), BI V L ∧ L.length ≤ n ∧ 0 ≤ now ∧ now ≤ 2 ^ 40 ∧ Vec 4 (.slice o L.length c 4) L.length (tflat L) hv ∧
    HasH σ ((b, .cells (.int .i64 now :: .int .i64 turn :: .slice o L.length c 4 :: tflat V) true) :: (hv ++ r))

theorem BX.right (H : BX σ b now V n r) : HasH σ r := by
  obtain ⟨turn, o, c, L, hv, hI, hL, h0, h1, W, H⟩ := H
  exact H.tail.sub (List.sublist_append_right _ _)
theorem BX.getB (H : BX σ b now V n r) : ∃ x1 x2, σ.get b = some (.cells (.int .i64 now :: x1 :: x2 :: tflat V) true) := by
  obtain ⟨turn, o, c, L, hv, hI, hL, h0, h1, W, H⟩ := H
  exact ⟨_, _, H.g1⟩
theorem BX.lens (H : BX σ b now V n r) : V.length = 16 ∧ 0 ≤ now ∧ now ≤ 2 ^ 40 := by
  obtain ⟨turn, o, c, L, hv, hI, hL, h0, h1, W, H⟩ := H
  exact ⟨hI.v, h0, h1⟩
theorem BX.span (H : BX σ b now V n r) {k : Int} (hl : liveB V k = true) : 1 ≤ (lf V k.toNat).span ∧ (lf V k.toNat).span ≤ 4096 := by
  obtain ⟨turn, o, c, L, hv, hI, hL, h0, h1, W, H⟩ := H
  exact ⟨(hI.zero_or hl).1, (hI.zero_or hl).2.1⟩
theorem BX.mono {m : Nat} (H : BX σ b now V n r) (h : n ≤ m) : BX σ b now V m r := by
  obtain ⟨turn, o, c, L, hv, hI, hL, h0, h1, W, H⟩ := H
  exact ⟨turn, o, c, L, hv, hI, by omega, h0, h1, W, H⟩
theorem BX.perm {r' : Hp} (H : BX σ b now V n r) (h : r.Perm r') : BX σ b now V n r' := by
  obtain ⟨turn, o, c, L, hv, hI, hL, h0, h1, W, H⟩ := H
  exact ⟨turn, o, c, L, hv, hI, hL, h0, h1, W, H.perm ((h.append_left hv).cons _)⟩
theorem BX.sub {r' : Hp} (H : BX σ b now V n r) (h : r'.Sublist r) : BX σ b now V n r' := by
  obtain ⟨turn, o, c, L, hv, hI, hL, h0, h1, W, H⟩ := H
  exact ⟨turn, o, c, L, hv, hI, hL, h0, h1, W, H.sub (((List.Sublist.refl hv).append h).cons_cons _)⟩
theorem BX.new (H : BX σ b now V n r) (x : Blk) : BX (σ.new x) b now V n ((σ.next, x) :: r) := by
  obtain ⟨turn, o, c, L, hv, hI, hL, h0, h1, W, H⟩ := H
  exact ⟨turn, o, c, L, hv, hI, hL, h0, h1, W, (H.new x).perm ((List.Perm.swap _ _ _).trans (List.perm_middle.symm.cons _))⟩
theorem BX.put {e : Nat} {x : Blk} (H : BX σ b now V n ((e, x) :: r)) (y : Blk) : BX (σ.put e y) b now V n ((e, y) :: r) := by
  obtain ⟨turn, o, c, L, hv, hI, hL, h0, h1, W, H⟩ := H
  exact ⟨turn, o, c, L, hv, hI, hL, h0, h1, W, ((H.perm (permW _ _ _ _)).put y).perm (permW _ _ _ _).symm⟩

theorem BX.live_due (H : BX σ b now V n r) {k : Int} (hl : liveB V k = true) : 1 ≤ gi (dues V) k.toNat ∧ gi (dues V) k.toNat = (lf V k.toNat).due ∧ 0 < (lf V k.toNat).span := by
  obtain ⟨turn, o, c, L, hv, hI, hL, h0, h1, W, H⟩ := H
  have hh := liveB_nm hl
  have hz := hI.zero_or hl
  have hV := hI.v
  have e : gi (dues V) k.toNat = (lf V k.toNat).due := by rw [gi_dues (by omega), if_pos (by omega)]
  refine ⟨?_, e, by omega⟩
  rw [e]
  rcases hI.pos k.toNat (by omega) with h | h
  · have := hz.1; rw [h] at this; simp [Tm.zero] at this
  · exact h
theorem BX.dead_due (H : BX σ b now V n r) {k : Int} (h : nm k = true) (hl : liveB V k = false) : gi (dues V) k.toNat = -1 := by
  have hV := H.lens.1
  have hh : 0 ≤ k ∧ k ≤ 15 := of_decide_eq_true h
  unfold liveB at hl
  rw [h, Bool.true_and] at hl
  rw [gi_dues (by omega), if_neg (of_decide_eq_false hl)]

theorem BX.set (H : BX σ b now V n r) (hn : n ≤ 80000) (hN : n + 1 < N) {name span : Int} (h : 0 ≤ name ∧ name ≤ 15 ∧ 1 ≤ span ∧ span ≤ 4096)
    (kont : ∀ σ' t, BX σ' b now (V.set name.toNat ⟨name, now + span, span, t⟩) (n + 1) r → K (.int .i64 0) σ' = some ()) :
    callK Try.prog N ann (d + 4) dem 9 [.ptr (some (b, 0)), .int .i64 name, .int .i64 span] σ K = some () := by
  obtain ⟨turn, o, c, L, hv, hI, hL, h0, h1, W, H⟩ := H
  refine set_ok hI (by omega) (by omega) h0 h1 W H h ?_
  intro σ' o' c' hv' L' turn' g1 g2 g3 g4
  exact kont σ' turn' ⟨turn', o', c', L', hv', g2, by omega, h0, h1, g3, g4⟩
theorem BX.off (H : BX σ b now V n r) {k : Int} (h : nm k = true) (hl : liveB V k = true)
    (kont : ∀ σ', BX σ' b now (V.set k.toNat Tm.zero) n r → K (.tuple [.bool true, .int .i64 0]) σ' = some ()) :
    callK Try.prog N ann (d + 3) dem 14 [.ptr (some (b, 0)), .int .i64 k] σ K = some () := by
  obtain ⟨turn, o, c, L, hv, hI, hL, h0, h1, W, H⟩ := H
  refine off_live H hI.v h hl ?_
  intro σ' H'
  exact kont σ' ⟨turn, o, c, L, hv, hI.clr _, hL, h0, h1, W, H'⟩
theorem BX.double (H : BX σ b now V n r) (hn : n ≤ 80000) (hN : n + 1 < N) {k : Int} (hl : liveB V k = true)
    (kont : ∀ σ' t, BX σ' b now (V.set k.toNat ⟨k, now + dbl (lf V k.toNat).span, dbl (lf V k.toNat).span, t⟩) (n + 1) r → K (.tuple [.int .i64 (dbl (lf V k.toNat).span), .int .i64 0]) σ' = some ()) :
    callK Try.prog N ann (d + 5) dem 10 [.ptr (some (b, 0)), .int .i64 k] σ K = some () := by
  obtain ⟨turn, o, c, L, hv, hI, hL, h0, h1, W, H⟩ := H
  refine double_live hI (by omega) (by omega) h0 h1 W H hl ?_
  intro σ' o' c' hv' L' turn' g1 g2 g3 g4
  exact kont σ' turn' ⟨turn', o', c', L', hv', g2, by omega, h0, h1, g3, g4⟩
theorem BX.tick (H : BX σ b now V n r) (hn : n ≤ 80000) (hN : n + 1 < N) {by_ : Int} (h : 0 ≤ by_ ∧ by_ ≤ 4096) (hl : now ≤ 1099511627776 - by_)
    (kont : ∀ σ' V' ms o2 c2 hv2, TickD (now + by_) (dues V) ms (dues V') → (∀ k, k < 16 → lf V' k = Tm.zero ∨ lf V' k = lf V k) → Vec 1 (.slice o2 ms.length c2 1) ms.length (ints ms) hv2 → BX σ' b (now + by_) V' n (hv2 ++ r) →
      K (.tuple [.slice o2 ms.length c2 1, .int .i64 0]) σ' = some ()) :
    callK Try.prog N ann (d + 5) dem 13 [.ptr (some (b, 0)), .int .i64 by_] σ K = some () := by
  obtain ⟨turn, o, c, L, hv, hI, hL, h0, h1, W, H⟩ := H
  refine tick_ok hI (by omega) (by omega) h0 W H h hl ?_
  intro σ' o' c' hv' V' L' ms o2 c2 hv2 q1 q2 q3 q4 q5 q6 q7
  exact kont σ' V' ms o2 c2 hv2 q3 q4 q6 ⟨turn, o', c', L', hv', q2, by omega, by omega, by omega, q5, q7⟩

end Go.Proofs.Ytciibgjmdgpgnaa

namespace Go.Proofs.Ytciibgjmdgpgnaa
open Go.AM
set_option maxRecDepth 100000
set_option linter.unusedSimpArgs false
set_option linter.unusedVariables false
variable {N d : Nat} {dem : Bool} {σ : St} {K : AV → St → Option Unit} {b n : Nat} {now : Int} {V : List Tm} {r : Hp}

structure RelD (E D : List Int) : Prop where
  e : E.length = 16
  d : D.length = 16
  v : ∀ k, k < 16 → gi E k = if gi D k < 0 then 0 else gi D k
  p : ∀ k, k < 16 → gi D k < 0 ∨ 1 ≤ gi D k
theorem RelD.set {E D : List Int} (h : RelD E D) {i : Nat} (hi : i < 16) {x y : Int} (hy : (y < 0 ∧ x = 0) ∨ (1 ≤ y ∧ x = y)) : RelD (E.set i x) (D.set i y) := by
  refine ⟨by simpa using h.e, by simpa using h.d, ?_, ?_⟩
  · intro k hk
    rw [gi_set (by have := h.e; omega), gi_set (by have := h.d; omega)]
    by_cases hki : k = i
    · rw [if_pos hki, if_pos hki]
      rcases hy with ⟨h1, h2⟩ | ⟨h1, h2⟩
      · rw [if_pos h1, h2]
      · rw [if_neg (by omega), h2]
    · rw [if_neg hki, if_neg hki]; exact h.v k hk
  · intro k hk
    rw [gi_set (by have := h.d; omega)]
    by_cases hki : k = i
    · rw [if_pos hki]; omega
    · rw [if_neg hki]; exact h.p k hk
theorem RelD.zero {E D : List Int} (h : RelD E D) {k : Nat} (hk : k < 16) : gi E k = 0 ↔ gi D k < 0 := by
  have h2 := h.p k hk
  have h1 := h.v k hk
  split at h1 <;> omega
theorem RelD.some {E D : List Int} (h : RelD E D) {k : Nat} (hk : k < 16) (hp : 0 ≤ gi D k) : gi E k = gi D k := by
  have := h.v k hk
  rw [if_neg (by omega)] at this
  exact this

theorem ints_len (E : List Int) : (ints E).length = E.length := by simp [ints]
theorem ints_at {E : List Int} {k : Nat} (h : k < E.length) : (ints E)[k]? = some (.int .i64 (gi E k)) := by
  unfold ints
  rw [List.getElem?_map, gi_at h]
  rfl

theorem ints_take {E : List Int} {k : Nat} (h : k < E.length) : List.take 1 (List.drop k (ints E)) = [.int .i64 (gi E k)] := by
  have h' : k < (ints E).length := by rw [ints_len]; exact h
  have := ints_at h
  rw [List.getElem?_eq_getElem h'] at this
  rw [List.drop_eq_getElem_cons h', List.take_succ_cons, List.take_zero]
  injection this with e
  rw [e]
theorem beqL_one (x : Int) : AV.beqL [.int .i64 x] [.int .i64 x] = true := by simp [AV.beqL, AV.beq]

theorem rang_loop {e : Nat} {o1 o2 : Option (Nat × Nat)} {n1 : Nat} {c1 c2 : Option Nat} {l1 i1 : Int} {ms D' : List Int} {hv : Hp} {J : KF Unit} (hms16 : ms.length ≤ 16) (W : Vec 1 (.slice o2 ms.length c2 1) ms.length (ints ms) hv) :
    ∀ (rest pre : List Int) (k : Nat) (σ : St) (D E : List Int), ms = pre ++ rest → rest.length < k → TickD now D rest D' → RelD E D → BX σ b now V n ((e, .cells (ints E) true) :: (hv ++ r)) →
      (∀ σ' E', RelD E' D' → BX σ' b now V n ((e, .cells (ints E') true) :: (hv ++ r)) → J (.exit 3) (f4e12 (some (b, 0)) e o1 n1 c1 l1 i1) σ' = some ()) →
      loopK (f4L93 (callK Try.prog N ann (d + 1)) dem N) f4a93 k J (f4e50 (some (b, 0)) e o1 n1 c1 l1 i1 o2 ms.length c2 ms.length (pre.length : Int)) σ = some () := by
  intro rest
  induction rest with
  | nil =>
    intro pre k σ D E hm hk hT R B kont
    obtain ⟨k, rfl⟩ : ∃ k', k = k' + 1 := ⟨k - 1, by omega⟩
    rw [loopK_succ]
    have hl : ms.length = pre.length := by rw [hm]; simp
    have q : decide ((pre.length : Int) < (ms.length : Int)) = false := decide_eq_false (by omega)
    cases hT with
    | stop _ =>
      simp only [go_sem, q]
      exact kont σ E R B
  | cons x rest ih =>
    intro pre k σ D E hm hk hT R B kont
    obtain ⟨k, rfl⟩ : ∃ k', k = k' + 1 := ⟨k - 1, by simp at hk; omega⟩
    rw [loopK_succ]
    have hl : ms.length = pre.length + (rest.length + 1) := by rw [hm]; simp
    have q : decide ((pre.length : Int) < (ms.length : Int)) = true := decide_eq_true (by omega)
    have q0 : ((0:Int) ≤ (pre.length : Int)) = True := eq_true (by omega)
    have q1 : ((pre.length : Int) < (ms.length : Int)) = True := eq_true (by omega)
    have ti : ((pre.length : Int)).toNat = pre.length := by omega
    cases hT with
    | @step _ _ _ kk hkk h0 h1 hmin hT' =>
      have hx : ms[pre.length]? = Option.some (kk : Int) := by rw [hm]; simp
      obtain ⟨b2, ho2, hld⟩ := (IA.of W (B.right.tail)).get hx
      subst ho2
      obtain ⟨x1, x2, hb⟩ := B.getB
      have he : σ.get e = _ := B.right.g1
      have f1 : decide ((kk : Int) < 0) = false := decide_eq_false (by omega)
      have f2 : decide ((kk : Int) > 15) = false := decide_eq_false (by omega)
      have j0 : ((0:Int) ≤ (kk : Int)) = True := eq_true (by omega)
      have j1 : ((kk : Int) < (16:Int)) = True := eq_true (by omega)
      have tk : ((kk : Int)).toNat = kk := by omega
      have hE := R.e
      have g := ints_at (E := E) (show kk < E.length by omega)
      have hgi := R.some hkk h0
      have hp := R.p kk hkk
      have f3 : (gi E kk == 0) = false := by simp; omega
      have f4 : decide (gi E kk > now) = false := decide_eq_false (by omega)
      have k1 : (kk + (0 + 1) ≤ 16) = True := eq_true (by omega)
      have s1 := ints_splice E (show kk < E.length by omega) 0
      have w4 : IntKind.i64.wrap ((pre.length : Int) + 1) = ((pre.length + 1 : Nat) : Int) := by rw [wrap_small (by omega) (by omega)]; omega
      simp only [go_sem, q, q0, q1, ti, Nat.mul_one, Nat.zero_add, hld, f1, f2, j0, j1, tk, he, g, f3, now_eq hb, f4, ints_len, hE, k1, s1, w4, ints_take (show kk < E.length by omega), beqL_one]
      have := ih (pre ++ [(kk : Int)]) k _ (D.set kk (-1)) (E.set kk 0) (by rw [hm]; simp) (by simp at hk; omega) hT' (R.set hkk (.inl ⟨by omega, rfl⟩)) (B.put _) kont
      rw [List.length_append] at this
      exact this

end Go.Proofs.Ytciibgjmdgpgnaa

namespace Go.Proofs.Ytciibgjmdgpgnaa
open Go.AM
set_option maxRecDepth 100000
set_option linter.unusedSimpArgs false
set_option linter.unusedVariables false
variable {N d : Nat} {dem : Bool} {σ : St} {K : AV → St → Option Unit} {b n : Nat} {now : Int} {V : List Tm} {r : Hp}

theorem TickD.fin {now : Int} {D D' : List Int} {ns : List Int} (h : TickD now D ns D') : ∀ k, k < 16 → gi D' k < 0 ∨ now < gi D' k := by
  induction h with
  | stop h => exact h
  | step _ _ _ _ _ ih => exact ih

theorem part_ok (cs : List AV) (i : Nat) : partOf (Program.mk Try.progTables Try.funcs) 3 cs i = cs[i]? :=
  plainSh_part (s := .int .i64) (by kernel_rfl) cs i

theorem due_loop {e : Nat} {o1 : Option (Nat × Nat)} {n1 : Nat} {c1 : Option Nat} {l1 i1 : Int} {J : KF Unit} {a0 a1 a2 a3 a4 a5 a6 a7 a8 a9 a10 a11 a12 a13 a14 a15 : Int}
    (hall : ∀ k : Nat, k < 16 → ∃ x, (ints [a0, a1, a2, a3, a4, a5, a6, a7, a8, a9, a10, a11, a12, a13, a14, a15])[k]? = some (.int .i64 x) ∧ (x ≤ 0 ∨ now < x)) :
    ∀ (m i k : Nat) (σ : St), m + i = 16 → m < k → BX σ b now V n r → (J (.exit 5) (f4e12 (some (b, 0)) e o1 n1 c1 l1 i1) σ = some ()) →
      loopK (f4L116 (callK Try.prog N ann (d + 1)) dem N) f4a116 k J (f4e62 (some (b, 0)) e o1 n1 c1 l1 i1 a0 a1 a2 a3 a4 a5 a6 a7 a8 a9 a10 a11 a12 a13 a14 a15 (i : Int)) σ = some () := by
  intro m
  induction m with
  | zero =>
    intro i k σ hm hk B kont
    obtain ⟨k, rfl⟩ : ∃ k', k = k' + 1 := ⟨k - 1, by omega⟩
    rw [loopK_succ]
    have q : decide ((i : Int) < 16) = false := decide_eq_false (by omega)
    simp only [go_sem, q]
    exact kont
  | succ m ih =>
    intro i k σ hm hk B kont
    obtain ⟨k, rfl⟩ : ∃ k', k = k' + 1 := ⟨k - 1, by omega⟩
    rw [loopK_succ]
    have q : decide ((i : Int) < 16) = true := decide_eq_true (by omega)
    have q0 : ((0:Int) ≤ (i : Int)) = True := eq_true (by omega)
    have q1 : ((i : Int) < (16:Int)) = True := eq_true (by omega)
    have ti : ((i : Int)).toNat = i := by omega
    have w4 : IntKind.i64.wrap ((i : Int) + 1) = ((i + 1 : Nat) : Int) := by rw [wrap_small (by omega) (by omega)]; rfl
    obtain ⟨x, hx, hx2⟩ := hall i (by omega)
    simp only [ints, List.map_cons, List.map_nil] at hx
    obtain ⟨x1, x2, hb⟩ := B.getB
    have fin := ih (i + 1) k σ (by omega) (by omega) B kont
    by_cases h0 : 0 < x
    · have f1 : decide (x > 0) = true := decide_eq_true h0
      have f2 : decide (x ≤ now) = false := decide_eq_false (by omega)
      simp only [go_sem, q, q0, q1, ti, Nat.mul_one, part_ok, hx, f1, now_eq hb, f2, w4]
      exact fin
    · have f1 : decide (x > 0) = false := decide_eq_false h0
      simp only [go_sem, q, q0, q1, ti, Nat.mul_one, part_ok, hx, f1, w4]
      exact fin

theorem list16 {E : List Int} (h : E.length = 16) : ∃ a0 a1 a2 a3 a4 a5 a6 a7 a8 a9 a10 a11 a12 a13 a14 a15, E = [a0, a1, a2, a3, a4, a5, a6, a7, a8, a9, a10, a11, a12, a13, a14, a15] := by
  match E, h with
  | [a0, a1, a2, a3, a4, a5, a6, a7, a8, a9, a10, a11, a12, a13, a14, a15], _ => exact ⟨_, _, _, _, _, _, _, _, _, _, _, _, _, _, _, _, rfl⟩

end Go.Proofs.Ytciibgjmdgpgnaa

namespace Go.Proofs.Ytciibgjmdgpgnaa
open Go.AM
set_option maxRecDepth 100000
set_option linter.unusedSimpArgs false
set_option linter.unusedVariables false
variable {N d : Nat} {dem : Bool} {σ : St} {K : AV → St → Option Unit} {b n : Nat} {now : Int} {V : List Tm} {r : Hp}

structure Stq where
  w : Int
  v : Int
  n : Int
def Stq.cells (p : Stq) : List AV := [.int .i64 p.w, .int .i64 p.v, .int .i64 p.n]
theorem stq_z (p : Stq) : p.cells.length = 3 := rfl
theorem stq_of (ys : List AV) (h : shsOK [.int .i64, .int .i64, .int .i64] ys) : ∃ a : Stq, ys = a.cells := by
  obtain ⟨_, _, rfl, ⟨a, rfl⟩, _, _, rfl, ⟨b, rfl⟩, _, _, rfl, ⟨c, rfl⟩, rfl⟩ := h
  exact ⟨⟨a, b, c⟩, rfl⟩
theorem stq_at {L : List Stq} {i : Nat} {p : Stq} (h : L[i]? = some p) : (L.flatMap Stq.cells)[i * 3]? = some (.int .i64 p.w) ∧ (L.flatMap Stq.cells)[i * 3 + 1]? = some (.int .i64 p.v) ∧ (L.flatMap Stq.cells)[i * 3 + 2]? = some (.int .i64 p.n) := by
  have q : ∀ j, j < 3 → (L.flatMap Stq.cells)[i * 3 + j]? = p.cells[j]? := fun j hj => by
    have := flatMap_get stq_z hj h []
    simpa using this
  exact ⟨q 0 (by omega), q 1 (by omega), q 2 (by omega)⟩

theorem BX.locp (H : BX σ b now V n r) (x y : Blk) : BX ((σ.new x).put σ.next y) b now V n ((σ.next, y) :: r) := (H.new x).put y
theorem BX.put2 {p : Nat × Blk} {e : Nat} {x : Blk} (H : BX σ b now V n (p :: (e, x) :: r)) (y : Blk) : BX (σ.put e y) b now V n ((e, y) :: r) :=
  ((H.perm (List.Perm.swap _ _ _)).put y).sub ((List.sublist_cons_self _ _).cons_cons _)
theorem BX.drop1 {p : Nat × Blk} (H : BX σ b now V n (p :: r)) : BX σ b now V n r := H.sub (List.sublist_cons_self _ _)

theorem set_gi {D : List Int} {k : Nat} (h : k < D.length) : D.set k (gi D k) = D := by
  apply List.ext_getElem?
  intro j
  rw [List.getElem?_set]
  split
  · rename_i e
    subst e
    first | (rw [if_pos h]; exact (gi_at h).symm) | exact (gi_at h).symm
  · rfl
theorem RelD.zero_set {E D : List Int} (h : RelD E D) {k : Nat} (hk : k < 16) (hd : gi D k = -1) : RelD (E.set k 0) D := by
  have := h.set hk (x := 0) (y := gi D k) (.inl ⟨by omega, rfl⟩)
  rwa [set_gi (by have := h.d; omega)] at this

theorem dbl_pos {s : Int} (h : 1 ≤ s) : 1 ≤ dbl s := by unfold dbl; split <;> omega
theorem dbl_le (s : Int) : dbl s ≤ 4096 := by unfold dbl; split <;> omega

theorem once_loop {l : List Stq} {o : Option (Nat × Nat)} {c : Option Nat} {hl : Hp} {e : Nat} {J : KF Unit} (hA : Arg 3 (.slice o l.length c 3) l.length (l.flatMap Stq.cells) hl) (hll : l.length ≤ 300) (hN : 1001 < N) :
    ∀ (m i k : Nat) (σ : St) (now : Int) (V : List Tm) (E : List Int), m + i = l.length → m < k → RelD E (dues V) → BX σ b now V i ((e, .cells (ints E) true) :: hl) → (∀ σ', HasH σ' [] → J (.exit 0) f4e14 σ' = some ()) →
      loopK (f4L19 (callK Try.prog N ann (d + 6)) dem N) f4a19 k J (f4e12 (some (b, 0)) e o l.length c l.length (i : Int)) σ = some () := by
  intro m
  induction m with
  | zero =>
    intro i k σ now V E hm hk R B kont
    obtain ⟨k, rfl⟩ : ∃ k', k = k' + 1 := ⟨k - 1, by omega⟩
    have q : decide ((i : Int) < (l.length : Int)) = false := decide_eq_false (by omega)
    rw [loopK_succ]
    simp only [go_sem, q]
    exact kont σ (B.right.sub (List.nil_sublist _))
  | succ m ih =>
    intro i k σ now V E hm hk R B kont
    obtain ⟨k, rfl⟩ : ∃ k', k = k' + 1 := ⟨k - 1, by omega⟩
    have q : decide ((i : Int) < (l.length : Int)) = true := decide_eq_true (by omega)
    have c0 : ((0 : Int) ≤ (i : Int)) = True := eq_true (by omega)
    have c1 : ((i : Int) < (l.length : Int)) = True := eq_true (by omega)
    have hti : ((i : Int)).toNat = i := by omega
    have w1 : IntKind.i64.wrap ((i : Int) + 1) = ((i + 1 : Nat) : Int) := by rw [wrap_small (by omega) (by omega)]; rfl
    obtain ⟨ba, rfl, rfl⟩ := hA.row (by omega)
    have hga : σ.get ba = _ := B.right.g2
    have na : (ba = σ.next) = False := eq_false (by have := B.right.l2; omega)
    obtain ⟨p, hp⟩ : ∃ p, l[i]? = some p := ⟨_, List.getElem?_eq_getElem (by omega)⟩
    obtain ⟨p0, p1, p2⟩ := stq_at hp
    have B1 := B.locp (.cells [.int .i64 0, .int .i64 0, .int .i64 0] true) (.cells p.cells true)
    obtain ⟨pw, pv, pn⟩ := p
    simp only [Stq.cells] at B1 p0 p1 p2
    have fin : ∀ σ3 now3 V3 E3, RelD E3 (dues V3) → BX σ3 b now3 V3 (i + 1) ((e, .cells (ints E3) true) :: [(ba, .cells (l.flatMap Stq.cells) false)]) → loopK (f4L19 (callK Try.prog N ann (d + 6)) dem N) f4a19 k J (f4e12 (some (b, 0)) e (some (ba, 0)) l.length c l.length ((i + 1 : Nat) : Int)) σ3 = some () :=
      fun σ3 now3 V3 E3 R3 B3 => ih (i + 1) k σ3 now3 V3 E3 (by omega) (by omega) R3 B3 kont
    have hs1 := B1.right.g1
    obtain ⟨hV, h0, h1⟩ := B1.lens
    rw [loopK_succ]
    by_cases n0 : pv < 0
    · have f1 : decide (pv < 0) = true := decide_eq_true n0
      simp only [go_sem, q, c0, c1, hti, hga, na, p0, p1, p2, hs1, f1, w1]
      exact fin _ now V E R (B1.drop1.mono (Nat.le_succ i))
    have f1 : decide (pv < 0) = false := decide_eq_false n0
    by_cases n1 : pv > 15
    · have f2 : decide (pv > 15) = true := decide_eq_true n1
      simp only [go_sem, q, c0, c1, hti, hga, na, p0, p1, p2, hs1, f1, f2, w1]
      exact fin _ now V E R (B1.drop1.mono (Nat.le_succ i))
    have f2 : decide (pv > 15) = false := decide_eq_false n1
    have hE := R.e
    have hk16 : pv.toNat < 16 := by omega
    have j0 : ((0:Int) ≤ pv) = True := eq_true (by omega)
    have j1 : (pv < (16:Int)) = True := eq_true (by omega)
    have k1 : (pv.toNat + (0 + 1) ≤ 16) = True := eq_true (by omega)
    have hnm : nm pv = true := nm_t ⟨by omega, by omega⟩
    have s1 := fun x => ints_splice E (show pv.toNat < E.length by omega) x
    by_cases hw : pw = 0 ∨ pw = 1
    · by_cases ok : 1 ≤ pn ∧ pn ≤ 4096
      · have w2 : IntKind.i64.wrap (now + pn) = now + pn := wrap_small (by omega) (by omega)
        have go2 : ∀ σ2 t, BX σ2 b now (V.set pv.toNat ⟨pv, now + pn, pn, t⟩) (i + 1) ((σ.next, .cells [.int .i64 pw, .int .i64 pv, .int .i64 pn] true) :: (e, .cells (ints E) true) :: [(ba, .cells (l.flatMap Stq.cells) false)]) →
            loopK (f4L19 (callK Try.prog N ann (d + 6)) dem N) f4a19 k J (f4e12 (some (b, 0)) e (some (ba, 0)) l.length c l.length ((i + 1 : Nat) : Int)) (σ2.put e (.cells (ints (E.set pv.toNat (now + pn))) true)) = some () := by
          intro σ2 t B2
          refine fin _ now _ _ ?_ (B2.put2 _)
          rw [dues_set, if_pos (show 0 < pn by omega)]
          exact R.set hk16 (.inr ⟨(show 1 ≤ now + pn by omega), rfl⟩)
        rcases hw with rfl | rfl
        · simp only [go_sem, q, c0, c1, hti, hga, na, p0, p1, p2, hs1, f1, f2]
          refine BX.set (d := d + 2) B1 (by omega) (by omega) ⟨by omega, by omega, ok.1, ok.2⟩ ?_
          intro σ2 t B2
          have hs2 := B2.right.g1
          have he2 := B2.right.g2
          obtain ⟨x1, x2, hb2⟩ := B2.getB
          simp only [go_sem, hs2, he2, now_eq hb2, beqL_one, j0, j1, Nat.mul_one, Nat.zero_add, ints_len, hE, k1, s1, w2, w1]
          exact go2 σ2 t B2
        · simp only [go_sem, q, c0, c1, hti, hga, na, p0, p1, p2, hs1, f1, f2]
          refine BX.set (d := d + 2) B1 (by omega) (by omega) ⟨by omega, by omega, ok.1, ok.2⟩ ?_
          intro σ2 t B2
          have hs2 := B2.right.g1
          have he2 := B2.right.g2
          obtain ⟨x1, x2, hb2⟩ := B2.getB
          simp only [go_sem, hs2, he2, now_eq hb2, beqL_one, j0, j1, Nat.mul_one, Nat.zero_add, ints_len, hE, k1, s1, w2, w1]
          exact go2 σ2 t B2
      · have bad : ¬ (0 ≤ pv ∧ pv ≤ 15 ∧ 1 ≤ pn ∧ pn ≤ 4096) := fun h => ok h.2.2
        have fin1 := fin _ now V E R (B1.drop1.mono (Nat.le_succ i))
        rcases hw with rfl | rfl
        · simp only [go_sem, q, c0, c1, hti, hga, na, p0, p1, p2, hs1, f1, f2, set_bad bad, w1]
          exact fin1
        · simp only [go_sem, q, c0, c1, hti, hga, na, p0, p1, p2, hs1, f1, f2, set_bad bad, w1]
          exact fin1
    have v0 : (pw == 0) = false := by simp; omega
    have v1 : (pw == 1) = false := by simp; omega
    by_cases hw2 : pw = 2
    · subst hw2
      cases hlv : liveB V pv with
      | true =>
        simp only [go_sem, q, c0, c1, hti, hga, na, p0, p1, p2, hs1, f1, f2]
        refine BX.off (d := d + 3) B1 hnm hlv ?_
        intro σ2 B2
        have hs2 := B2.right.g1
        have he2 := B2.right.g2
        simp only [go_sem, hs2, he2, j0, j1, Nat.mul_one, Nat.zero_add, ints_len, hE, k1, s1, w1]
        refine fin _ now _ _ ?_ ((B2.put2 _).mono (Nat.le_succ i))
        rw [dues_set, if_neg (show ¬ (0 < Tm.zero.span) by decide)]
        exact R.set hk16 (.inl ⟨by omega, rfl⟩)
      | false =>
        obtain ⟨y1, y2, hb1⟩ := B1.getB
        have he1 := B1.right.g2
        simp only [go_sem, q, c0, c1, hti, hga, na, p0, p1, p2, hs1, f1, f2, off_dead (d := d + 3) hb1 hV hnm hlv, he1, j0, j1, Nat.mul_one, Nat.zero_add, ints_len, hE, k1, s1, w1]
        exact fin _ now _ _ (R.zero_set hk16 (B1.dead_due hnm hlv)) ((B1.put2 _).mono (Nat.le_succ i))
    have v2 : (pw == 2) = false := by simp; omega
    by_cases hw3 : pw = 3
    · subst hw3
      have gE := ints_at (E := E) (show pv.toNat < E.length by omega)
      cases hlv : liveB V pv with
      | true =>
        have hdu := B1.live_due hlv
        have hsp := B1.span hlv
        have gv := R.some hk16 (by omega)
        have f3 : decide (gi E pv.toNat > 0) = true := decide_eq_true (by omega)
        have w2 : IntKind.i64.wrap (now + dbl (lf V pv.toNat).span) = now + dbl (lf V pv.toNat).span := wrap_small (by have := dbl_pos hsp.1; omega) (by have := dbl_pos hsp.1; have := dbl_le (lf V pv.toNat).span; omega)
        simp only [go_sem, q, c0, c1, hti, hga, na, p0, p1, p2, hs1, f1, f2]
        refine BX.double (d := d + 1) B1 (by omega) (by omega) hlv ?_
        intro σ2 t B2
        have hs2 := B2.right.g1
        have he2 := B2.right.g2
        obtain ⟨x1, x2, hb2⟩ := B2.getB
        simp only [go_sem, hs2, he2, gE, f3, now_eq hb2, beqL_one, j0, j1, Nat.mul_one, Nat.zero_add, ints_len, hE, k1, s1, w2, w1]
        refine fin _ now _ _ ?_ (B2.put2 _)
        rw [dues_set, if_pos (by have := dbl_pos hsp.1; exact this)]
        exact R.set hk16 (.inr ⟨(by have := dbl_pos hsp.1; show 1 ≤ now + dbl _; omega), rfl⟩)
      | false =>
        obtain ⟨y1, y2, hb1⟩ := B1.getB
        have he1 := B1.right.g2
        have hdd := B1.dead_due hnm hlv
        have gv := (R.zero hk16).2 (by omega)
        have f3 : decide (gi E pv.toNat > 0) = false := decide_eq_false (by omega)
        simp only [go_sem, q, c0, c1, hti, hga, na, p0, p1, p2, hs1, f1, f2, double_dead (d := d + 3) hb1 hV hnm hlv, he1, gE, f3, j0, j1, Nat.mul_one, Nat.zero_add, ints_len, hE, k1, s1, w1]
        exact fin _ now V E R (B1.drop1.mono (Nat.le_succ i))
    have v3 : (pw == 3) = false := by simp; omega
    by_cases hw4 : pw = 4
    · subst hw4
      by_cases ok : 0 ≤ pn ∧ pn ≤ 4096
      · by_cases hlg : now > 1099511627776 - pn
        · obtain ⟨y1, y2, hb1⟩ := B1.getB
          simp only [go_sem, q, c0, c1, hti, hga, na, p0, p1, p2, hs1, f1, f2, tick_long hb1 ok hlg, w1]
          exact fin _ now V E R (B1.drop1.mono (Nat.le_succ i))
        · simp only [go_sem, q, c0, c1, hti, hga, na, p0, p1, p2, hs1, f1, f2]
          refine BX.tick (d := d + 1) B1 (by omega) (by omega) ok (by omega) ?_
          intro σ2 V2 ms o2 c2 hv2 hT hl2 W2 B2
          simp only [go_sem]
          have B3 := (B2.sub ((List.Sublist.refl hv2).append (List.sublist_cons_self _ _))).perm List.perm_middle
          refine rang_loop (d := d + 5) (hT.len16 R.d) W2 ms [] N σ2 (dues V) E rfl (by have := hT.len16 R.d; omega) hT R B3 ?_
          intro σ3 E3 R3 B4
          obtain ⟨a0, a1, a2, a3, a4, a5, a6, a7, a8, a9, a10, a11, a12, a13, a14, a15, rfl⟩ := list16 R3.e
          have he4 := B4.right.g1
          simp only [go_sem, he4, ints, List.map_cons, List.map_nil]
          refine due_loop (d := d + 5) (i := 0) ?_ 16 N σ3 (by omega) (by omega) B4 ?_
          · intro j hj
            refine ⟨_, ints_at (by simpa using hj), ?_⟩
            have g := hT.fin j hj
            have g2 := R3.v j hj
            split at g2 <;> omega
          · simp only [go_sem, w1]
            exact fin σ3 _ V2 _ R3 ((B4.sub ((List.sublist_append_right _ _).cons_cons _)).mono (Nat.le_succ i))
      · have bad : pn < 0 ∨ pn > 4096 := by omega
        simp only [go_sem, q, c0, c1, hti, hga, na, p0, p1, p2, hs1, f1, f2, tick_bad bad, w1]
        exact fin _ now V E R (B1.drop1.mono (Nat.le_succ i))
    have v4 : (pw == 4) = false := by simp; omega
    simp only [go_sem, q, c0, c1, hti, hga, na, p0, p1, p2, hs1, f1, f2, v0, v1, v2, v3, v4, w1]
    exact fin _ now V E R (B1.drop1.mono (Nat.le_succ i))

theorem ints_zero : ints (List.replicate 16 0) = [.int .i64 0, .int .i64 0, .int .i64 0, .int .i64 0, .int .i64 0, .int .i64 0, .int .i64 0, .int .i64 0, .int .i64 0, .int .i64 0, .int .i64 0, .int .i64 0, .int .i64 0, .int .i64 0, .int .i64 0, .int .i64 0] := rfl
theorem RelD0 : RelD (List.replicate 16 0) (dues V0) := by
  refine ⟨by simp, rfl, ?_, ?_⟩
  · intro k hk
    rw [gi_dues_zero (show k < V0.length from hk) (lf_V0 k), if_pos (by decide)]
    unfold gi
    rw [List.getElem?_replicate, if_pos hk]
    rfl
  · intro k hk
    rw [gi_dues_zero (show k < V0.length from hk) (lf_V0 k)]
    omega

theorem once_law {l : List Stq} {o : Option (Nat × Nat)} {c : Option Nat} {hl : Hp} (hA : Arg 3 (.slice o l.length c 3) l.length (l.flatMap Stq.cells) hl) (H : HasH σ hl) (hN : 1001 < N) (k : ∀ σ', HasH σ' [] → K (.bool true) σ' = some ()) :
    callK Try.prog N ann (d + 7) dem 4 [.slice o l.length c 3] σ K = some () := by
  rw [go 4, f4_eq]
  simp only [go_sem, new_eq]
  have H1 := H.new (.cells (.int .i64 0 :: .int .i64 0 :: .slice none 0 (some 0) 4 :: tflat V0) true)
  by_cases t : (l.length : Int) > 300
  · have e : decide ((l.length : Int) > 300) = true := decide_eq_true t
    simp only [go_sem, e]
    refine three_ok (H1.sub (List.nil_sublist _)) (by omega) ?_
    intro σ' H'
    simp only [go_sem]
    exact k _ H'
  have e : decide ((l.length : Int) > 300) = false := decide_eq_false t
  have B : BX (σ.new (.cells (.int .i64 0 :: .int .i64 0 :: .slice none 0 (some 0) 4 :: tflat V0) true)) σ.next 0 V0 0 hl := ⟨0, none, some 0, [], [], BI0, by simp, by omega, by decide, Vec.nil 4, H1⟩
  have B2 := B.new (.cells (ints (List.replicate 16 0)) true)
  rw [ints_zero] at B2
  simp only [go_sem, e]
  refine once_loop (i := 0) hA (by omega) hN l.length N _ 0 V0 (List.replicate 16 0) (by omega) (by omega) RelD0 B2 ?_
  intro σ3 H3
  simp only [go_sem]
  refine three_ok H3 (by omega) ?_
  intro σ4 H4
  simp only [go_sem]
  exact k _ H4

end Go.Proofs.Ytciibgjmdgpgnaa
