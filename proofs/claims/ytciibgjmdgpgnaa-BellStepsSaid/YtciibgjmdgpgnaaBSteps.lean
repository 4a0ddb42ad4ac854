/- BellSteps: the walk. -/
import Derived.Test.YtciibgjmdgpgnaaH20
import Derived.Test.YtciibgjmdgpgnaaBeSteps
namespace Go.Proofs.Ytciibgjmdgpgnaa
open Go.AM
set_option maxRecDepth 100000
set_option linter.unusedSimpArgs false
set_option linter.unusedVariables false
variable {N d : Nat} {dem : Bool} {σ : St} {K : AV → St → Option Unit} {b w n : Nat} {now nw : Int} {V : List Tm} {D S : List Int} {r : Hp}

structure Stp where
  w : Int
  v : Int
  n : Int
def Stp.cells (p : Stp) : List AV := [.int .i64 p.w, .int .i64 p.v, .int .i64 p.n]
theorem stp_z (p : Stp) : p.cells.length = 3 := rfl
theorem stp_of (ys : List AV) (h : shsOK [.int .i64, .int .i64, .int .i64] ys) : ∃ a : Stp, ys = a.cells := by
  obtain ⟨_, _, rfl, ⟨a, rfl⟩, _, _, rfl, ⟨b, rfl⟩, _, _, rfl, ⟨c, rfl⟩, rfl⟩ := h
  exact ⟨⟨a, b, c⟩, rfl⟩
theorem stp_at {L : List Stp} {i : Nat} {p : Stp} (h : L[i]? = some p) : (L.flatMap Stp.cells)[i * 3]? = some (.int .i64 p.w) ∧ (L.flatMap Stp.cells)[i * 3 + 1]? = some (.int .i64 p.v) ∧ (L.flatMap Stp.cells)[i * 3 + 2]? = some (.int .i64 p.n) := by
  have q : ∀ j, j < 3 → (L.flatMap Stp.cells)[i * 3 + j]? = p.cells[j]? := fun j hj => by
    have := flatMap_get stp_z hj h []
    simpa using this
  exact ⟨q 0 (by omega), q 1 (by omega), q 2 (by omega)⟩

theorem BS.locp (H : BS σ b w n r) (x y : Blk) : BS ((σ.new x).put σ.next y) b w n ((σ.next, y) :: r) := by
  obtain ⟨now, V, S, ⟨turn, o, c, L, hv, hI, hL, h0, h1, W, hD, hS, H⟩, hrel⟩ := H
  refine ⟨now, V, S, ⟨turn, o, c, L, hv, hI, hL, h0, h1, W, hD, hS, ?_⟩, hrel⟩
  exact ((H.new x).put y).perm ((List.Perm.swap _ _ _).trans ((List.perm_middle.symm.trans ((List.Perm.swap _ _ _).append_left hv)).cons _))
theorem BS.right (H : BS σ b w n r) : HasH σ r := by
  obtain ⟨now, V, S, H, _⟩ := H
  exact H.right
theorem BS.drop1 {p : Nat × Blk} (H : BS σ b w n (p :: r)) : BS σ b w n r := by
  obtain ⟨now, V, S, H, hrel⟩ := H
  exact ⟨now, V, S, H.drop1, hrel⟩

theorem steps_loop {l : List Stp} {o : Option (Nat × Nat)} {c : Option Nat} {hl : Hp} {J : KF Unit} (hA : Arg 3 (.slice o l.length c 3) l.length (l.flatMap Stp.cells) hl) (hll : l.length ≤ 400) (hN : 1001 < N) :
    ∀ (m i k : Nat) (σ : St), m + i = l.length → m < k → BS σ b w i hl → (∀ σ', HasH σ' [] → J (.exit 0) f5e15 σ' = some ()) →
      loopK (f5L19 (callK Try.prog N ann (d + 6)) dem N) f5a19 k J (f5e13 (some (b, 0)) (some (w, 0)) o l.length c l.length (i : Int)) σ = some () := by
  intro m
  induction m with
  | zero =>
    intro i k σ hm hk B kont
    obtain ⟨k, rfl⟩ : ∃ k', k = k' + 1 := ⟨k - 1, by omega⟩
    have q : decide ((i : Int) < (l.length : Int)) = false := decide_eq_false (by omega)
    rw [loopK_succ]
    simp only [go_sem, q]
    exact kont σ (B.right.sub (List.nil_sublist _))
  | succ m ih =>
    intro i k σ hm hk B kont
    obtain ⟨k, rfl⟩ : ∃ k', k = k' + 1 := ⟨k - 1, by omega⟩
    have q : decide ((i : Int) < (l.length : Int)) = true := decide_eq_true (by omega)
    have c0 : ((0 : Int) ≤ (i : Int)) = True := eq_true (by omega)
    have c1 : ((i : Int) < (l.length : Int)) = True := eq_true (by omega)
    have hti : ((i : Int)).toNat = i := by omega
    have w1 : IntKind.i64.wrap ((i : Int) + 1) = ((i + 1 : Nat) : Int) := by rw [wrap_small (by omega) (by omega)]; rfl
    obtain ⟨ba, rfl, rfl⟩ := hA.row (by omega)
    have hga : σ.get ba = _ := B.right.g1
    have na : (ba = σ.next) = False := eq_false (by have := B.right.l1; omega)
    obtain ⟨p, hp⟩ : ∃ p, l[i]? = some p := ⟨_, List.getElem?_eq_getElem (by omega)⟩
    obtain ⟨p0, p1, p2⟩ := stp_at hp
    have B1 := B.locp (.cells [.int .i64 0, .int .i64 0, .int .i64 0] true) (.cells p.cells true)
    simp only [Stp.cells] at B1
    rw [loopK_succ]
    simp only [go_sem, q, c0, c1, hti, hga, na, p0, p1, p2]
    refine does_ok (d := d) B1 (by omega) (by omega) ?_
    intro σ2 B2
    obtain ⟨now, V, S, H2, hrel⟩ := B2
    have hs2 := H2.right.g1
    simp only [go_sem, hs2]
    refine BW.next (d := d + 1) H2 (by omega) (by omega) ?_
    intro σ3 qq x hq1 hq2 H3
    have hs3 := H3.right.g1
    obtain ⟨hV, hD, hS, h0, h1⟩ := H3.lens
    simp only [go_sem, hs3]
    refine rnext_ok (d := d + 5) hD H3.getW (by omega) ?_
    intro x2 hx2
    obtain ⟨y1, y2, hb3⟩ := H3.getB
    have hw3 := H3.getW
    have next : ∀ J' : Unit → Prop, True := fun _ => trivial
    have fin : loopK (f5L19 (callK Try.prog N ann (d + 6)) dem N) f5a19 k J (f5e13 (some (b, 0)) (some (w, 0)) (some (ba, 0)) l.length c l.length ((i + 1 : Nat) : Int)) σ3 = some () :=
      ih (i + 1) k σ3 (by omega) (by omega) ⟨now, V, S, H3.drop1, hrel⟩ kont
    simp only [go_sem, hs3]
    cases hl : liveB V p.v with
    | true =>
      have hh := liveB_nm hl
      have hd := H3.live_due hl
      have j0 : ((0:Int) ≤ p.v) = True := eq_true hh.1
      have j1 : (p.v < (16:Int)) = True := eq_true (by omega)
      have f2 : decide (p.v ≥ 0) = true := decide_eq_true hh.1
      have f3 : decide (p.v ≤ 15) = true := decide_eq_true hh.2
      have g := rb_due (now := now) (S := S) hD (show p.v.toNat < 16 by omega)
      rw [hd.2.1] at g
      have f4 : decide ((lf V p.v.toNat).due ≥ 0) = true := decide_eq_true (by omega)
      rw [due_live (d := d + 3) hb3 hV hl]
      cases qq
      rotate_left
      · obtain ⟨hx0, hx⟩ := hq1 rfl
        obtain rfl := hx.det hx2
        have f1 : decide (x ≥ 0) = true := decide_eq_true hx0
        simp only [go_sem, hs3, hw3, now_eq hb3, rb_now, rb_len (now := now) hD hS, (show List.take 1 (rb now (dues V) S) = [.int .i64 now] from rfl), beqL_int, f1, w1, j0, j1, f2, f3, Nat.mul_one, g, f4]
        exact fin
      · obtain ⟨rfl, hx⟩ := hq2 rfl
        obtain rfl := hx.det hx2
        have f1 : decide ((-1 : Int) ≥ 0) = false := by decide
        simp only [go_sem, hs3, hw3, now_eq hb3, rb_now, rb_len (now := now) hD hS, (show List.take 1 (rb now (dues V) S) = [.int .i64 now] from rfl), beqL_int, f1, w1, j0, j1, f2, f3, Nat.mul_one, g, f4]
        exact fin
    | false =>
      rw [due_dead (d := d + 3) hb3 hV hl]
      cases hn : nm p.v with
      | true =>
        have hh : 0 ≤ p.v ∧ p.v ≤ 15 := of_decide_eq_true hn
        have hd := H3.dead_due hn hl
        have j0 : ((0:Int) ≤ p.v) = True := eq_true hh.1
        have j1 : (p.v < (16:Int)) = True := eq_true (by omega)
        have f2 : decide (p.v ≥ 0) = true := decide_eq_true hh.1
        have f3 : decide (p.v ≤ 15) = true := decide_eq_true hh.2
        have g := rb_due (now := now) (S := S) hD (show p.v.toNat < 16 by omega)
        rw [hd] at g
        have f4 : decide ((-1 : Int) ≥ 0) = false := by decide
        cases qq
        rotate_left
        · obtain ⟨hx0, hx⟩ := hq1 rfl
          obtain rfl := hx.det hx2
          have f1 : decide (x ≥ 0) = true := decide_eq_true hx0
          simp only [go_sem, hs3, hw3, now_eq hb3, rb_now, rb_len (now := now) hD hS, (show List.take 1 (rb now (dues V) S) = [.int .i64 now] from rfl), beqL_int, f1, w1, j0, j1, f2, f3, Nat.mul_one, g, f4]
          exact fin
        · obtain ⟨rfl, hx⟩ := hq2 rfl
          obtain rfl := hx.det hx2
          have f1 : decide ((-1 : Int) ≥ 0) = false := by decide
          simp only [go_sem, hs3, hw3, now_eq hb3, rb_now, rb_len (now := now) hD hS, (show List.take 1 (rb now (dues V) S) = [.int .i64 now] from rfl), beqL_int, f1, w1, j0, j1, f2, f3, Nat.mul_one, g, f4]
          exact fin
      | false =>
        have f4 : decide ((-1 : Int) ≥ 0) = false := by decide
        have hh : ¬ (0 ≤ p.v ∧ p.v ≤ 15) := of_decide_eq_false hn
        by_cases h0' : 0 ≤ p.v
        · have f2 : decide (p.v ≥ 0) = true := decide_eq_true h0'
          have f3 : decide (p.v ≤ 15) = false := decide_eq_false (by omega)
          cases qq
          rotate_left
          · obtain ⟨hx0, hx⟩ := hq1 rfl
            obtain rfl := hx.det hx2
            have f1 : decide (x ≥ 0) = true := decide_eq_true hx0
            simp only [go_sem, hs3, hw3, now_eq hb3, rb_now, rb_len (now := now) hD hS, (show List.take 1 (rb now (dues V) S) = [.int .i64 now] from rfl), beqL_int, f1, w1, f2, f3, f4]
            exact fin
          · obtain ⟨rfl, hx⟩ := hq2 rfl
            obtain rfl := hx.det hx2
            have f1 : decide ((-1 : Int) ≥ 0) = false := by decide
            simp only [go_sem, hs3, hw3, now_eq hb3, rb_now, rb_len (now := now) hD hS, (show List.take 1 (rb now (dues V) S) = [.int .i64 now] from rfl), beqL_int, f1, w1, f2, f3, f4]
            exact fin
        · have f2 : decide (p.v ≥ 0) = false := decide_eq_false h0'
          cases qq
          rotate_left
          · obtain ⟨hx0, hx⟩ := hq1 rfl
            obtain rfl := hx.det hx2
            have f1 : decide (x ≥ 0) = true := decide_eq_true hx0
            simp only [go_sem, hs3, hw3, now_eq hb3, rb_now, rb_len (now := now) hD hS, (show List.take 1 (rb now (dues V) S) = [.int .i64 now] from rfl), beqL_int, f1, w1, f2, f4]
            exact fin
          · obtain ⟨rfl, hx⟩ := hq2 rfl
            obtain rfl := hx.det hx2
            have f1 : decide ((-1 : Int) ≥ 0) = false := by decide
            simp only [go_sem, hs3, hw3, now_eq hb3, rb_now, rb_len (now := now) hD hS, (show List.take 1 (rb now (dues V) S) = [.int .i64 now] from rfl), beqL_int, f1, w1, f2, f4]
            exact fin

theorem steps_law {l : List Stp} {o : Option (Nat × Nat)} {c : Option Nat} {hl : Hp} (hA : Arg 3 (.slice o l.length c 3) l.length (l.flatMap Stp.cells) hl) (H : HasH σ hl) (hN : 1001 < N) (k : ∀ σ', HasH σ' [] → K (.bool true) σ' = some ()) :
    callK Try.prog N ann (d + 7) dem 5 [.slice o l.length c 3] σ K = some () := by
  rw [go 5, f5_eq]
  simp only [go_sem, new_eq]
  have H1 := H.new (.cells (.int .i64 0 :: .int .i64 0 :: .slice none 0 (some 0) 4 :: tflat V0) true)
  by_cases t : (l.length : Int) > 400
  · have e : decide ((l.length : Int) > 400) = true := decide_eq_true t
    simp only [go_sem, e]
    refine three_ok (H1.sub (List.nil_sublist _)) (by omega) ?_
    intro σ' H'
    simp only [go_sem]
    exact k _ H'
  have e : decide ((l.length : Int) > 400) = false := decide_eq_false t
  simp only [go_sem, e]
  refine rnew_ok (d := d + 5) H1 (by omega) ?_
  intro σ2 w D S hD hS hall H2
  have hDV : D = dues V0 := by
    apply List.ext_getElem?
    intro j
    by_cases hj : j < 16
    · rw [gi_at (by omega), gi_at (by rw [dues_len]; exact hj), hall j hj, gi_dues_zero hj (lf_V0 j)]
    · rw [List.getElem?_eq_none (by omega), List.getElem?_eq_none (by rw [dues_len]; show 16 ≤ j; omega)]
  subst hDV
  have B : BS σ2 σ.next w 0 hl := ⟨0, V0, S, ⟨0, none, some 0, [], [], BI0, by simp, by omega, by decide, Vec.nil 4, hD, hS, H2.rot⟩, fun j hj hp => by rw [lf_V0] at hp; simp [Tm.zero] at hp⟩
  simp only [go_sem]
  refine steps_loop (i := 0) hA (by omega) hN l.length N σ2 (by omega) (by omega) B ?_
  intro σ3 H3
  simp only [go_sem]
  refine three_ok H3 (by omega) ?_
  intro σ4 H4
  simp only [go_sem]
  exact k _ H4

end Go.Proofs.Ytciibgjmdgpgnaa
