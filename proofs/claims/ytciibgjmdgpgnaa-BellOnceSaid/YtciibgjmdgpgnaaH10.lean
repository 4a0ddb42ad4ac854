/- What a tick rings, as a plain law: each time the least of the timers that are due. -/
import Derived.Test.YtciibgjmdgpgnaaH7
namespace Go.Proofs.Ytciibgjmdgpgnaa
open Go.AM
set_option maxRecDepth 100000
set_option linter.unusedSimpArgs false
set_option linter.unusedVariables false

def gi (D : List Int) (k : Nat) : Int := (D[k]?).getD (-1)
theorem gi_set {D : List Int} {i : Nat} (hi : i < D.length) (x : Int) (k : Nat) : gi (D.set i x) k = if k = i then x else gi D k := by
  unfold gi
  rw [List.getElem?_set]
  by_cases h : i = k
  · subst h; simp [hi]
  · have h' : ¬ k = i := fun e => h e.symm
    simp [h, h']

inductive TickD (now : Int) : List Int → List Int → List Int → Prop
  | stop {D : List Int} : (∀ k, k < 16 → gi D k < 0 ∨ now < gi D k) → TickD now D [] D
  | step {D D' : List Int} {ns : List Int} {k : Nat} : k < 16 → 0 ≤ gi D k → gi D k ≤ now → (∀ j, j < 16 → gi D j < 0 ∨ gi D k < gi D j ∨ (gi D k = gi D j ∧ k ≤ j)) → TickD now (D.set k (-1)) ns D' → TickD now D ((k : Int) :: ns) D'

theorem TickD.det {now : Int} {D D1 : List Int} {ns : List Int} (h : TickD now D ns D1) : ∀ {ms D2}, TickD now D ms D2 → ns = ms ∧ D1 = D2 := by
  induction h with
  | stop h =>
    intro ms D2 h2
    cases h2 with
    | stop _ => exact ⟨rfl, rfl⟩
    | step hk h0 h1 _ _ => rcases h _ hk with q | q <;> omega
  | @step D D' ns k hk h0 h1 hm _ ih =>
    intro ms D2 h2
    cases h2 with
    | stop h => rcases h _ hk with q | q <;> omega
    | @step _ _ ns' k' hk' h0' h1' hm' ht' =>
      have : k = k' := by
        have a := hm _ hk'
        have b := hm' _ hk
        omega
      subst this
      obtain ⟨e1, e2⟩ := ih ht'
      exact ⟨by rw [e1], e2⟩

/-- When a bell's timers are due; -1: there is none. -/
def dues (V : List Tm) : List Int := V.map fun t => if 0 < t.span then t.due else -1
theorem dues_len (V : List Tm) : (dues V).length = V.length := by simp [dues]
theorem dues_set (V : List Tm) (k : Nat) (t : Tm) : dues (V.set k t) = (dues V).set k (if 0 < t.span then t.due else -1) := by
  unfold dues
  rw [List.map_set]
theorem gi_dues {V : List Tm} {k : Nat} (h : k < V.length) : gi (dues V) k = if 0 < (lf V k).span then (lf V k).due else -1 := by
  unfold gi dues lf
  simp [h]

theorem gi_dues_zero {V : List Tm} {k : Nat} (h : k < V.length) (hz : lf V k = Tm.zero) : gi (dues V) k = -1 := by
  rw [gi_dues h, hz]; rfl

theorem BI.none_left {V L : List Tm} (hI : BI V L) (h : L.length = 0) (now : Int) : ∀ k, k < 16 → gi (dues V) k < 0 ∨ now < gi (dues V) k := by
  intro k hk
  have hV := hI.v
  rcases hI.live k hk with hz | ⟨_, _, _, j, hj, _⟩
  · rw [gi_dues_zero (by omega) hz]; exact .inl (by omega)
  · omega

theorem BI.least {V L : List Tm} (hI : BI V L) (h : 0 < L.length) : ∀ k, k < 16 → gi (dues V) k < 0 ∨ (lf L 0).due < gi (dues V) k ∨ ((lf L 0).due = gi (dues V) k ∧ (lf L 0).name ≤ k) := by
  intro k hk
  have hV := hI.v
  rcases hI.live k hk with hz | ⟨z1, z2, z3, j, hj, he⟩
  · rw [gi_dues_zero (by omega) hz]; exact .inl (by omega)
  · right
    have hr := hI.h.root j hj
    rw [he] at hr
    rw [gi_dues (by omega), if_pos (by omega)]
    have := mt (tlt_iff (lf V k) (lf L 0)).2 (by rw [hr]; decide)
    rw [z1] at this
    omega

end Go.Proofs.Ytciibgjmdgpgnaa

namespace Go.Proofs.Ytciibgjmdgpgnaa
open Go.AM
set_option maxRecDepth 100000
set_option linter.unusedSimpArgs false
set_option linter.unusedVariables false
variable {N d : Nat} {dem : Bool} {σ : St} {K : AV → St → Option Unit}

def ints (ns : List Int) : List AV := ns.map (AV.int .i64)
theorem ints_app (a : List Int) (x : Int) : ints a ++ [.int .i64 x] = ints (a ++ [x]) := by simp [ints]

theorem perm1 {α : Type} (p : α) (a b r : List α) : (p :: (a ++ (b ++ r))).Perm (b ++ (p :: (a ++ r))) :=
  ((List.perm_append_comm_assoc a b r).cons p).trans List.perm_middle.symm

theorem tick_loop {b : Nat} {now turn : Int} {J : KF Unit} :
    ∀ (n k : Nat) (σ : St) (V L : List Tm) (o : Option (Nat × Nat)) (c : Option Nat) (hv : Hp) (ns : List Int) (o2 : Option (Nat × Nat)) (c2 : Option Nat) (hv2 r : Hp), L.length ≤ n → n < k → L.length ≤ 90000 → L.length + 1 < N → ns.length + L.length ≤ 1000000 → BI V L →
      Vec 4 (.slice o L.length c 4) L.length (tflat L) hv → Vec 1 (.slice o2 ns.length c2 1) ns.length (ints ns) hv2 →
      HasH σ ((b, .cells (.int .i64 now :: .int .i64 turn :: .slice o L.length c 4 :: tflat V) true) :: (hv ++ (hv2 ++ r))) →
      (∀ σ' o' c' hv' V' L' ms o2' c2' hv2', L'.length ≤ L.length → BI V' L' → TickD now (dues V) ms (dues V') → (∀ k, k < 16 → lf V' k = Tm.zero ∨ lf V' k = lf V k) → Vec 4 (.slice o' L'.length c' 4) L'.length (tflat L') hv' → Vec 1 (.slice o2' (ns ++ ms).length c2' 1) (ns ++ ms).length (ints (ns ++ ms)) hv2' →
        HasH σ' ((b, .cells (.int .i64 now :: .int .i64 turn :: .slice o' L'.length c' 4 :: tflat V') true) :: (hv' ++ (hv2' ++ r))) → J (.exit 1) (f13e19 o2' (ns ++ ms).length c2') σ' = some ()) →
      loopK (f13L30 (callK Try.prog N ann (d + 4)) dem N) f13a30 k J (f13e15 (some (b, 0)) o2 ns.length c2) σ = some () := by
  intro n
  induction n with
  | zero =>
    intro k σ V L o c hv ns o2 c2 hv2 r hn hk hL hN hns hI W W2 H kont
    obtain ⟨k, rfl⟩ : ∃ k', k = k' + 1 := ⟨k - 1, by omega⟩
    rw [loopK_succ]
    simp only [go_sem]
    refine fresh_ok hL hN hI W H ?_
    intro σ' o' c' hv' L' q g1 g2 g3 g4 g5 g6
    cases q with
    | true => have := g3 rfl; omega
    | false =>
      simp only [go_sem]
      have := kont σ' o' c' hv' V L' [] o2 c2 hv2 g1 g2 (.stop (g2.none_left (g4 rfl) now)) (fun _ _ => .inr rfl) g5 (by simpa using W2) g6
      simpa only [List.append_nil] using this
  | succ n ih =>
    intro k σ V L o c hv ns o2 c2 hv2 r hn hk hL hN hns hI W W2 H kont
    obtain ⟨k, rfl⟩ : ∃ k', k = k' + 1 := ⟨k - 1, by omega⟩
    rw [loopK_succ]
    simp only [go_sem]
    refine fresh_ok hL hN hI W H ?_
    intro σ' o' c' hv' L' q g1 g2 g3 g4 g5 g6
    cases q with
    | false =>
      simp only [go_sem]
      have := kont σ' o' c' hv' V L' [] o2 c2 hv2 g1 g2 (.stop (g2.none_left (g4 rfl) now)) (fun _ _ => .inr rfl) g5 (by simpa using W2) g6
      simpa only [List.append_nil] using this
    | true =>
      obtain ⟨l1, l2⟩ := g3 rfl
      have hb : σ'.get b = _ := g6.g1
      obtain ⟨_, bk, junk, hoo, hvv, hcap⟩ := g5.row (by omega)
      subst hoo
      have hk1 : σ'.get bk = some (.cells (tflat L' ++ junk) true) := by rw [hvv] at g6; exact g6.g2
      have i1 : ((0:Int) < (L'.length : Int)) = True := eq_true (by omega)
      obtain ⟨a0, a1, a2, a3⟩ := tget l1 junk
      simp only [Nat.zero_mul, Nat.zero_add] at a0 a1 a2 a3
      obtain ⟨m0, m1, m2⟩ := g2.ent (lf L' 0) ⟨0, l1, rfl⟩
      have hV := g2.v
      have hgi : gi (dues V) (lf L' 0).name.toNat = (lf L' 0).due := by
        rw [gi_dues (by omega), l2, if_pos (by omega)]
      by_cases hd : (lf L' 0).due ≤ now
      · have e1 : decide ((lf L' 0).due ≤ now) = true := decide_eq_true hd
        simp only [go_sem, hb, i1, hk1, a1, e1]
        refine pop_ok (d := d + 1) (n := L'.length - 1) (by omega) (by omega) (by omega) g2.h g5 g6 ?_
        intro σ1 o1 c1 hv1 L1 p1 p2 p3 p4 p5 p6
        have hb1 : σ1.get b = _ := p6.g1
        have nb : (b = σ1.next) = False := eq_false (by have := p6.l1; omega)
        have nb' : (σ1.next = b) = False := eq_false (by have := p6.l1; omega)
        have j0 : ((0:Int) ≤ (lf L' 0).name) = True := eq_true m0
        have j1 : ((lf L' 0).name < (16:Int)) = True := eq_true (by omega)
        have hlen : (tflat V).length = 64 := by rw [tflat_len, hV]
        have k1 : (3 + (lf L' 0).name.toNat * 4 + (0 + 1 + 1 + 1 + 1) ≤ (tflat V).length + 1 + 1 + 1) = True := eq_true (by omega)
        have s1 := bsplice (show (lf L' 0).name.toNat < V.length by omega) Tm.zero (.int .i64 now) (.int .i64 turn) (.slice o1 L1.length c1 4)
        simp only [Tm.cells, Tm.zero] at s1
        have H2 := (((p6.new (.cells [.int .i64 0, .int .i64 0, .int .i64 0, .int .i64 0] true)).put (.cells (lf L' 0).cells true)).put2 (.cells (.int .i64 now :: .int .i64 turn :: .slice o1 L1.length c1 4 :: tflat (V.set (lf L' 0).name.toNat Tm.zero)) true)).tail
        have H3 := (H2.new' (.cells [.int .i64 (lf L' 0).name] true)).perm (perm1 _ _ _ _)
        obtain ⟨o3, c3, σ3, hv3, happ, W3, H4⟩ := W2.app (bytes := 8) (k := 1) (news := [.int .i64 (lf L' 0).name]) H3 (by decide) (by decide) rfl (by omega)
        simp only [Tm.cells, Tm.zero] at happ
        simp only [go_sem, one_iface, Tm.cells, hb1, nb, nb', j0, j1, k1, s1, elems_pos (show 1 ≠ 0 by decide), happ]
        have hl1 : L'.length - 1 + 1 = L'.length := by omega
        have hnm : (((lf L' 0).name.toNat : Nat) : Int) = (lf L' 0).name := by omega
        have hI1 : BI (V.set (lf L' 0).name.toNat Tm.zero) L1 := by
          refine (g2.clr _).pop (n := L'.length - 1) (by omega) p1 p2 (by rw [hl1]; rw [hl1] at p3; exact p3) (by rw [hl1]; rw [hl1] at p4; exact p4) ?_
          intro j hj
          rw [lf_set (by omega)]
          by_cases hjn : j = (lf L' 0).name.toNat
          · rw [if_pos hjn]; exact .inl rfl
          · rw [if_neg hjn]
            rcases g2.live j hj with hz | ⟨z1, _⟩
            · exact .inl hz
            · refine .inr fun he => hjn ?_
              rw [← he, z1]; omega
        have hl : (ns ++ [(lf L' 0).name]).length = ns.length + 1 := by simp
        have ihh := ih k σ3 (V.set (lf L' 0).name.toNat Tm.zero) L1 o1 c1 hv1 (ns ++ [(lf L' 0).name]) o3 c3 hv3 r (by omega) (by omega) (by omega) (by omega) (by rw [hl]; omega) hI1 p5 (by rw [hl, ← ints_app]; exact W3)
          (H4.perm (perm1 _ _ _ _).symm) ?_
        · rw [hl] at ihh; exact ihh
        · intro σ4 o4 c4 hv4 V4 L4 ms o5 c5 hv5 q1 q2 q3 q4 q5 q6 q7
          have e : ns ++ ((lf L' 0).name :: ms) = (ns ++ [(lf L' 0).name]) ++ ms := by simp
          have := kont σ4 o4 c4 hv4 V4 L4 ((lf L' 0).name :: ms) o5 c5 hv5 (by omega) q2 ?_ ?_ q5 (by rw [e]; exact q6) q7
          · rw [e] at this; exact this
          · rw [← hnm]
            refine .step (by omega) (by rw [hgi]; have := g2.pos (lf L' 0).name.toNat (by omega); rw [l2] at this; rcases this with h | h; · rw [h] at m2; simp [Tm.zero] at m2
                                        · omega) (by rw [hgi]; exact hd) ?_ ?_
            · intro j hj
              rw [hgi]
              rcases g2.least l1 j hj with h | h | ⟨h, h'⟩
              · exact .inl h
              · exact .inr (.inl h)
              · exact .inr (.inr ⟨h, by omega⟩)
            · rw [dues_set] at q3; exact q3
          · intro j hj
            rcases q4 j hj with h | h
            · exact .inl h
            · rw [lf_set (by omega)] at h
              by_cases hjn : j = (lf L' 0).name.toNat
              · rw [if_pos hjn] at h; exact .inl h
              · rw [if_neg hjn] at h; exact .inr h
      · have e1 : decide ((lf L' 0).due ≤ now) = false := decide_eq_false hd
        simp only [go_sem, hb, i1, hk1, a1, e1]
        have := kont σ' (some (bk, 0)) c' hv' V L' [] o2 c2 hv2 g1 g2 (.stop (fun j hj => by rcases g2.least l1 j hj with h | h | h <;> omega)) (fun _ _ => .inr rfl) g5 (by simpa using W2) g6
        simpa only [List.append_nil] using this

end Go.Proofs.Ytciibgjmdgpgnaa

namespace Go.Proofs.Ytciibgjmdgpgnaa
open Go.AM
set_option maxRecDepth 100000
set_option linter.unusedSimpArgs false
set_option linter.unusedVariables false
variable {N d : Nat} {dem : Bool} {σ : St} {K : AV → St → Option Unit}

theorem tick_bad {p : Option (Nat × Nat)} {by_ : Int} (h : by_ < 0 ∨ by_ > 4096) : callK Try.prog N ann (d + 1) dem 13 [.ptr p, .int .i64 by_] σ K = K (.tuple [.slice none 0 (some 0) 1, .int .i64 1]) σ := by
  rw [go 13, f13_eq]
  by_cases h1 : by_ < 0
  · have e1 : decide (by_ < 0) = true := decide_eq_true h1
    simp only [go_sem, e1]
  · have e1 : decide (by_ < 0) = false := decide_eq_false h1
    have e2 : decide (by_ > 4096) = true := decide_eq_true (by omega)
    simp only [go_sem, e1, e2]

theorem tick_nil {by_ : Int} (h : 0 ≤ by_ ∧ by_ ≤ 4096) : callK Try.prog N ann (d + 1) dem 13 [.ptr none, .int .i64 by_] σ K = K (.tuple [.slice none 0 (some 0) 1, .int .i64 7]) σ := by
  rw [go 13, f13_eq]
  have e1 : decide (by_ < 0) = false := decide_eq_false (by omega)
  have e2 : decide (by_ > 4096) = false := decide_eq_false (by omega)
  simp only [go_sem, e1, e2]

theorem tick_long {b : Nat} {now by_ : Int} {cs : List AV} {own : Bool} (hg : σ.get b = some (.cells (.int .i64 now :: cs) own)) (h : 0 ≤ by_ ∧ by_ ≤ 4096) (hl : now > 1099511627776 - by_) :
    callK Try.prog N ann (d + 1) dem 13 [.ptr (some (b, 0)), .int .i64 by_] σ K = K (.tuple [.slice none 0 (some 0) 1, .int .i64 2]) σ := by
  rw [go 13, f13_eq]
  have e1 : decide (by_ < 0) = false := decide_eq_false (by omega)
  have e2 : decide (by_ > 4096) = false := decide_eq_false (by omega)
  have w : IntKind.i64.wrap (1099511627776 - by_) = 1099511627776 - by_ := wrap_small (by omega) (by omega)
  have e3 : decide (now > 1099511627776 - by_) = true := decide_eq_true hl
  simp only [go_sem, e1, e2, hg, w, e3]

theorem tick_ok {b : Nat} {now turn : Int} {o : Option (Nat × Nat)} {c : Option Nat} {V L : List Tm} {hv r : Hp} (hI : BI V L) (hL : L.length ≤ 90000) (hN : L.length + 1 < N) (h0 : 0 ≤ now)
    (W : Vec 4 (.slice o L.length c 4) L.length (tflat L) hv) (H : HasH σ ((b, .cells (.int .i64 now :: .int .i64 turn :: .slice o L.length c 4 :: tflat V) true) :: (hv ++ r)))
    {by_ : Int} (h : 0 ≤ by_ ∧ by_ ≤ 4096) (hl : now ≤ 1099511627776 - by_)
    (kont : ∀ σ' o' c' hv' V' L' ms o2 c2 hv2, L'.length ≤ L.length → BI V' L' → TickD (now + by_) (dues V) ms (dues V') → (∀ k, k < 16 → lf V' k = Tm.zero ∨ lf V' k = lf V k) → Vec 4 (.slice o' L'.length c' 4) L'.length (tflat L') hv' → Vec 1 (.slice o2 ms.length c2 1) ms.length (ints ms) hv2 →
      HasH σ' ((b, .cells (.int .i64 (now + by_) :: .int .i64 turn :: .slice o' L'.length c' 4 :: tflat V') true) :: (hv' ++ (hv2 ++ r))) → K (.tuple [.slice o2 ms.length c2 1, .int .i64 0]) σ' = some ()) :
    callK Try.prog N ann (d + 5) dem 13 [.ptr (some (b, 0)), .int .i64 by_] σ K = some () := by
  rw [go 13, f13_eq]
  have hb : σ.get b = _ := H.g1
  have e1 : decide (by_ < 0) = false := decide_eq_false (by omega)
  have e2 : decide (by_ > 4096) = false := decide_eq_false (by omega)
  have w : IntKind.i64.wrap (1099511627776 - by_) = 1099511627776 - by_ := wrap_small (by omega) (by omega)
  have w2 : IntKind.i64.wrap (now + by_) = now + by_ := wrap_small (by omega) (by omega)
  have e3 : decide (now > 1099511627776 - by_) = false := decide_eq_false (by omega)
  simp only [go_sem, e1, e2, hb, w, w2, e3]
  have H2 := H.put (.cells (.int .i64 (now + by_) :: .int .i64 turn :: .slice o L.length c 4 :: tflat V) true)
  refine tick_loop (now := now + by_) (turn := turn) L.length N _ V L o c hv [] none (some 0) [] r (Nat.le_refl _) (by omega) hL hN (by simp; omega) hI W (Vec.nil 1) (by simpa using H2) ?_
  intro σ' o' c' hv' V' L' ms o2' c2' hv2' q1 q2 q3 q4 q5 q6 q7
  simp only [go_sem]
  simp only [List.nil_append] at q6 ⊢
  exact kont σ' o' c' hv' V' L' ms o2' c2' hv2' q1 q2 q3 q4 q5 q6 q7

def V0 : List Tm := List.replicate 16 Tm.zero
theorem lf_V0 (k : Nat) : lf V0 k = Tm.zero := by
  unfold lf V0
  rw [List.getElem?_replicate]
  split <;> rfl
theorem BI0 : BI V0 [] := ⟨rfl, fun k _ h => absurd h (by simp), fun k _ => .inl (lf_V0 k), fun t ⟨k, h, _⟩ => absurd h (by simp), fun k _ => .inl (lf_V0 k)⟩

theorem new_eq : callK Try.prog N ann (d + 1) dem 7 [] σ K = K (.ptr (some (σ.next, 0))) (σ.new (.cells (.int .i64 0 :: .int .i64 0 :: .slice none 0 (some 0) 4 :: tflat V0) true)) := by
  rw [go 7, f7_eq]
  simp only [go_sem]
  rfl

end Go.Proofs.Ytciibgjmdgpgnaa
