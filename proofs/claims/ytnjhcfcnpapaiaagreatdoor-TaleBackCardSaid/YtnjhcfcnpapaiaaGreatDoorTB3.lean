/- ticks, as it is known (for TaleBack, whose claim leaves T9 out). -/
import Derived.Test.YtnjhcfcnpapaiaaGreatDoorT8
import Derived.Test.YtnjhcfcnpapaiaaGreatDoorTaBack
set_option linter.unusedVariables false
set_option linter.unusedSimpArgs false
namespace Go.Proofs.YtnjhcfcnpapaiaaGreatDoor
open Go.AM
set_option maxRecDepth 100000
variable {N d : Nat} {dem : Bool} {σ : St} {K : AV → St → Option Unit}

theorem ticks1 (hg : goodS σ = true) : callK Tryz.prog N ann (d + 1) dem 6 [] σ K = K (.bool true) σ := by
  refine know1 ?_ N d dem K
  show ticksSpec [] σ = _
  unfold ticksSpec
  simp only [hg, if_true]

end Go.Proofs.YtnjhcfcnpapaiaaGreatDoor

set_option linter.unusedVariables false
set_option linter.unusedSimpArgs false
namespace Go.Proofs.YtnjhcfcnpapaiaaGreatDoor
open Go.AM
set_option maxRecDepth 100000
variable {N d : Nat} {dem : Bool} {σ : St} {K : AV → St → Option Unit} {J : KF Unit}

theorem Row_ld1 {n : Nat} {o : Option (Nat × Nat)} {c : Option Nat} {l : List Int} {h r : Hp} {σ : St} (hR : Row 1 (.slice o n c 1) n (l.map (AV.int .i64)) h) (H : HasH σ (h ++ r)) {i : Nat} {x : Int} (hx : l[i]? = some x) : ∃ b, o = some (b, 0) ∧ σ.ld b i = some (.int .i64 x) :=
  hR.ld H (by rw [List.getElem?_map, hx]; rfl)

theorem ints_l {l : List Int} {o1 o2 : Option (Nat × Nat)} {c1 c2 : Option Nat} {h1 h2 r : Hp} (R1 : Row 1 (.slice o1 l.length c1 1) l.length (l.map (AV.int .i64)) h1) (R2 : Row 1 (.slice o2 l.length c2 1) l.length (l.map (AV.int .i64)) h2)
    (hl : l.length ≤ 100000) (H1 : ∃ r, HasH σ (h1 ++ r)) (H2 : ∃ r, HasH σ (h2 ++ r)) :
    ∀ (m i k : Nat), i + m = l.length → m < k → J (.exit 0) (f19e0 o1 l.length c1 o2 l.length c2) σ = some () →
      loopK (f19L7 (callK Tryz.prog N ann d) dem N) f19a7 k J (f19e3 o1 l.length c1 o2 l.length c2 l.length (i : Int)) σ = some () := by
  intro m
  induction m with
  | zero =>
    intro i k hi hk kf
    obtain ⟨k, rfl⟩ : ∃ k', k = k' + 1 := ⟨k - 1, by omega⟩
    have hlt : ((i : Int) < (l.length : Int)) = False := eq_false (by omega)
    rw [loopK_succ]
    simp only [go_sem, hlt]
    exact kf
  | succ m ih =>
    intro i k hi hk kf
    obtain ⟨k, rfl⟩ : ∃ k', k = k' + 1 := ⟨k - 1, by omega⟩
    have hlt : ((i : Int) < (l.length : Int)) = True := eq_true (by omega)
    have hge : ((l.length : Int) ≤ (i : Int)) = False := eq_false (by omega)
    have h0 : ((0 : Int) ≤ i) = True := eq_true (by omega)
    have hni := List.getElem?_eq_getElem (l := l) (i := i) (by omega)
    obtain ⟨r1, H1'⟩ := H1
    obtain ⟨r2, H2'⟩ := H2
    obtain ⟨b1, rfl, q1⟩ := Row_ld1 R1 H1' hni
    obtain ⟨b2, rfl, q2⟩ := Row_ld1 R2 H2' hni
    have hnat : ((i : Int)).toNat = i := by omega
    have hw : IntKind.i64.wrap ((i : Int) + 1) = ((i + 1 : Nat) : Int) := by rw [wrap_small (by omega) (by omega)]; rfl
    have hne : (l[i] != l[i]) = false := by simp
    rw [loopK_succ]
    simp only [go_sem, hlt, hge, h0, hnat, Nat.zero_add, Nat.mul_one, q1, q2, hne, hw]
    exact ih (i + 1) k (by omega) (by omega) kf
theorem ints_ok {l : List Int} {o1 o2 : Option (Nat × Nat)} {c1 c2 : Option Nat} {h1 h2 r : Hp} (R1 : Row 1 (.slice o1 l.length c1 1) l.length (l.map (AV.int .i64)) h1) (R2 : Row 1 (.slice o2 l.length c2 1) l.length (l.map (AV.int .i64)) h2)
    (hl : l.length ≤ 100000) (hN : 100000 < N) (H1 : ∃ r, HasH σ (h1 ++ r)) (H2 : ∃ r, HasH σ (h2 ++ r)) (kont : K (.bool true) σ = some ()) :
    callK Tryz.prog N ann (d + 1) dem 19 [.slice o1 l.length c1 1, .slice o2 l.length c2 1] σ K = some () := by
  have he : ((l.length : Int) == (l.length : Int)) = true := by simp
  rw [go1 19 rfl, f19_eq]
  simp only [go_sem]
  refine ints_l (r := r) R1 R2 hl H1 H2 l.length 0 N (by omega) (by omega) ?_
  simp only [go_sem, he]
  exact kont

theorem ref_ok {f g0 c0 : Int} {seed : ByteArray} {oo ol : Option (Nat × Nat)} {no nl : Nat} {co cl : Option Nat} {r : Hp} (H : HasH σ r)
    (kont : ∀ σ', HasH σ' r → K (.agg [.int .i64 f, .int .i64 g0, .int .i64 c0, .str seed, .slice oo no co 1, .slice ol nl cl 12]) σ' = some ()) :
    callK Tryz.prog N ann (d + 1) dem 10 [.agg [.int .i64 f, .int .i64 g0, .int .i64 c0, .str seed, .slice oo no co 1, .slice ol nl cl 12]] σ K = some () := by
  have H1 := (H.new (.cells [.int .i64 f, .int .i64 g0, .int .i64 c0, .str seed, .slice oo no co 1, .slice ol nl cl 12] true)).new (.cells zsC true)
  have n1 : (σ.next = σ.next + 1) = False := eq_false (by omega)
  simp only [zsC] at H1
  rw [go1 10 rfl, f10_eq]
  simp only [go_sem, n1]
  exact kont _ (H1.put _).tail.tail

theorem chs_facts {l : List Chs} {ol : Option (Nat × Nat)} {cl : Option Nat} {h r : Hp} (hR : Row 12 (.slice ol l.length cl 12) l.length (l.flatMap chsC) h) (H : HasH σ (h ++ r)) {i : Nat} {y0 y1 y2 y3 y4 y5 y6 y7 : Int} {y8 y9 y10 y11 : ByteArray}
    (hni : l[i]? = some ⟨[y0, y1, y2, y3, y4, y5, y6, y7], [y8, y9, y10, y11]⟩) : ∃ b, ol = some (b, 0) ∧ σ.ld b (i * 12) = some (.int .i64 y0) ∧ σ.ld b (i * 12 + 1) = some (.int .i64 y1) ∧ σ.ld b (i * 12 + 2) = some (.int .i64 y2) ∧ σ.ld b (i * 12 + 3) = some (.int .i64 y3) ∧
      σ.ld b (i * 12 + 4) = some (.int .i64 y4) ∧ σ.ld b (i * 12 + 5) = some (.int .i64 y5) ∧ σ.ld b (i * 12 + 6) = some (.int .i64 y6) ∧ σ.ld b (i * 12 + 7) = some (.int .i64 y7) ∧
      σ.ld b (i * 12 + 8) = some (.str y8) ∧ σ.ld b (i * 12 + 9) = some (.str y9) ∧ σ.ld b (i * 12 + 10) = some (.str y10) ∧ σ.ld b (i * 12 + 11) = some (.str y11) := by
  obtain ⟨b, rfl⟩ : ∃ b, ol = some (b, 0) := by
    obtain ⟨b, e, _⟩ := hR.ld (i := i * 12 + 0) (x := .int .i64 y0) H (by
      have := flatMap_get (f := chsC) (z := 12) chsC_len (show 0 < 12 by decide) hni []
      rw [List.append_nil] at this
      rw [this]; rfl)
    exact ⟨b, e⟩
  exact ⟨b, rfl, chs_at hR H hni (j := 0) (by decide) rfl, chs_at hR H hni (by decide) rfl, chs_at hR H hni (by decide) rfl, chs_at hR H hni (by decide) rfl, chs_at hR H hni (by decide) rfl, chs_at hR H hni (by decide) rfl,
    chs_at hR H hni (by decide) rfl, chs_at hR H hni (by decide) rfl, chs_at hR H hni (by decide) rfl, chs_at hR H hni (by decide) rfl, chs_at hR H hni (by decide) rfl, chs_at hR H hni (by decide) rfl⟩

def szs (c : Chs) : Nat := match c.ts with
  | [a, b, c, d] => a.size + b.size + c.size + d.size
  | _ => 0
/-- Is a running sum too great? -/
def lgR : Nat → List Chs → Bool
  | _, [] => false
  | n, c :: r => if 20000 < n + szs c then true else lgR (n + szs c) r
def largeB (s : Scr) : Bool := if lgR s.seed.size s.l = true then true else if 400 < s.l.length then true else decide ((100 : Int) < (s.odd.length : Int))
structure Shp (c : Chs) : Prop where
  n : ∀ n ∈ c.ns, i64 n
  t : ∀ t ∈ c.ts, t.size ≤ 2 ^ 50
  n8 : c.ns.length = 8
  t4 : c.ts.length = 4

theorem large_l {l : List Chs} {bs : Nat} {ol : Option (Nat × Nat)} {cl : Option Nat} {hl g : Hp} (hR : Row 12 (.slice ol l.length cl 12) l.length (l.flatMap chsC) hl) (hsh : ∀ c ∈ l, Shp c) (hlen : l.length ≤ 2 ^ 60)  :
    ∀ (todo done : List Chs) (k n : Nat) (σ : St), l = done ++ todo → todo.length < k → n ≤ 2 ^ 55 → HasH σ (hl ++ g) →
      (lgR n todo = true → ∀ σ', HasH σ' (hl ++ g) → J .ret (f5e14 true) σ' = some ()) → (lgR n todo = false → ∀ σ', HasH σ' (hl ++ g) → J (.exit 0) (f5e2 bs) σ' = some ()) →
      loopK (f5L9 (callK Tryz.prog N ann d) dem N) f5a9 k J (f5e6 bs (n : Int) ol l.length cl l.length (done.length : Int)) σ = some () := by
  intro todo
  induction todo with
  | nil =>
    intro done k n σ hr hk hn H kt kf
    obtain ⟨k, rfl⟩ : ∃ k', k = k' + 1 := ⟨k - 1, by omega⟩
    rw [List.append_nil] at hr
    subst hr
    have hlt : ((l.length : Int) < (l.length : Int)) = False := eq_false (by omega)
    rw [loopK_succ]
    simp only [go_sem, hlt]
    exact kf rfl _ H
  | cons x todo ih =>
    intro done k n σ hr hk hn H kt kf
    obtain ⟨k, rfl⟩ : ∃ k', k = k' + 1 := ⟨k - 1, by omega⟩
    have hlr : l.length = done.length + (todo.length + 1) := by rw [hr]; simp
    have hlt : ((done.length : Int) < (l.length : Int)) = True := eq_true (by omega)
    have h0 : ((0 : Int) ≤ (done.length : Int)) = True := eq_true (by omega)
    have hni : l[done.length]? = some x := by rw [hr, List.getElem?_append_right (Nat.le_refl _)]; simp
    obtain ⟨_, ht, hl8, hl4⟩ := hsh x (by rw [hr]; simp)
    obtain ⟨ns, ts⟩ := x
    simp only at ht hl8 hl4
    obtain ⟨y0, y1, y2, y3, y4, y5, y6, y7, rfl⟩ := list8 hl8
    obtain ⟨y8, y9, y10, y11, rfl⟩ := list4 hl4
    obtain ⟨b, rfl, q0, q1, q2, q3, q4, q5, q6, q7, q8, q9, q10, q11⟩ := chs_facts hR H hni
    have hnat : ((done.length : Int)).toNat = done.length := by omega
    have hw : IntKind.i64.wrap ((done.length : Int) + 1) = ((done.length + 1 : Nat) : Int) := by rw [wrap_small (by omega) (by omega)]; rfl
    have s8 := ht y8 (by simp)
    have s9 := ht y9 (by simp)
    have s10 := ht y10 (by simp)
    have s11 := ht y11 (by simp)
    have w8 : IntKind.i64.wrap ((n : Int) + (y8.size : Int)) = ((n + y8.size : Nat) : Int) := by rw [wrap_small (by omega) (by omega)]; rfl
    have w9 : IntKind.i64.wrap (((n + y8.size : Nat) : Int) + (y9.size : Int)) = ((n + y8.size + y9.size : Nat) : Int) := by rw [wrap_small (by omega) (by omega)]; rfl
    have w10 : IntKind.i64.wrap (((n + y8.size + y9.size : Nat) : Int) + (y10.size : Int)) = ((n + y8.size + y9.size + y10.size : Nat) : Int) := by rw [wrap_small (by omega) (by omega)]; rfl
    have w11 : IntKind.i64.wrap (((n + y8.size + y9.size + y10.size : Nat) : Int) + (y11.size : Int)) = ((n + y8.size + y9.size + y10.size + y11.size : Nat) : Int) := by rw [wrap_small (by omega) (by omega)]; rfl
    have hsz : n + szs ⟨[y0, y1, y2, y3, y4, y5, y6, y7], [y8, y9, y10, y11]⟩ = n + y8.size + y9.size + y10.size + y11.size := by simp [szs]; omega
    have H1 := (H.new' (.cells zerC true))
    have Hn := ((H.new (.cells zerC true)).put (.cells [.int .i64 y0, .int .i64 y1, .int .i64 y2, .int .i64 y3, .int .i64 y4, .int .i64 y5, .int .i64 y6, .int .i64 y7, .str y8, .str y9, .str y10, .str y11] true)).tail
    simp only [zerC] at Hn
    rw [loopK_succ]
    by_cases hc : 20000 < n + y8.size + y9.size + y10.size + y11.size
    · have hc' : ((20000 : Int) < ((n + y8.size + y9.size + y10.size + y11.size : Nat) : Int)) = True := eq_true (by omega)
      simp only [go_sem, hlt, h0, hnat, Nat.zero_add, q0, q1, q2, q3, q4, q5, q6, q7, q8, q9, q10, q11, w8, w9, w10, w11, hc']
      exact kt (by rw [lgR, hsz, if_pos hc]) _ Hn
    · have hc' : ((20000 : Int) < ((n + y8.size + y9.size + y10.size + y11.size : Nat) : Int)) = False := eq_false (by omega)
      simp only [go_sem, hlt, h0, hnat, Nat.zero_add, q0, q1, q2, q3, q4, q5, q6, q7, q8, q9, q10, q11, w8, w9, w10, w11, hc', hw]
      have e : lgR n (⟨[y0, y1, y2, y3, y4, y5, y6, y7], [y8, y9, y10, y11]⟩ :: todo) = lgR (n + y8.size + y9.size + y10.size + y11.size) todo := by rw [lgR, hsz, if_neg hc]
      rw [e] at kt kf
      have := ih (done ++ [⟨[y0, y1, y2, y3, y4, y5, y6, y7], [y8, y9, y10, y11]⟩]) k (n + y8.size + y9.size + y10.size + y11.size) _ (by rw [hr]; simp) (by simp at hk; omega) (by omega) Hn kt kf
      rw [show (done ++ [(⟨[y0, y1, y2, y3, y4, y5, y6, y7], [y8, y9, y10, y11]⟩ : Chs)]).length = done.length + 1 by simp] at this
      exact this
end Go.Proofs.YtnjhcfcnpapaiaaGreatDoor

set_option linter.unusedVariables false
set_option linter.unusedSimpArgs false
namespace Go.Proofs.YtnjhcfcnpapaiaaGreatDoor
open Go.AM
set_option maxRecDepth 100000
variable {N d : Nat} {dem : Bool} {σ : St} {K : AV → St → Option Unit} {J : KF Unit}

theorem large_ok {s : Scr} {oo ol : Option (Nat × Nat)} {co cl : Option Nat} {ho hl g : Hp} (hRl : Row 12 (.slice ol s.l.length cl 12) s.l.length (s.l.flatMap chsC) hl)
    (hsh : ∀ c ∈ s.l, Shp c) (hlen : s.l.length ≤ 2 ^ 60) (hseed : s.seed.size ≤ 2 ^ 50) (hN : s.l.length < N) (H : HasH σ (hl ++ g))
    (kont : ∀ σ', HasH σ' (hl ++ g) → K (.bool (largeB s)) σ' = some ()) :
    callK Tryz.prog N ann (d + 1) dem 5 [.agg [.int .i64 s.f, .int .i64 s.g, .int .i64 s.c, .str s.seed, .slice oo s.odd.length co 1, .slice ol s.l.length cl 12]] σ K = some () := by
  have H1 := H.new (.cells [.int .i64 s.f, .int .i64 s.g, .int .i64 s.c, .str s.seed, .slice oo s.odd.length co 1, .slice ol s.l.length cl 12] true)
  rw [go1 5 rfl, f5_eq]
  simp only [go_sem]
  refine large_l (g := (σ.next, .cells [.int .i64 s.f, .int .i64 s.g, .int .i64 s.c, .str s.seed, .slice oo s.odd.length co 1, .slice ol s.l.length cl 12] true) :: g) hRl hsh hlen s.l [] N s.seed.size _ rfl hN (by omega) H1.down ?_ ?_
  · intro h σ' H'
    simp only [go_sem]
    unfold largeB at kont
    rw [if_pos h] at kont
    exact kont _ H'.up.tail
  · intro h σ' H'
    have hgs := H'.up.g1
    unfold largeB at kont
    rw [if_neg (by rw [h]; simp)] at kont
    by_cases h4 : 400 < s.l.length
    · have h4' : ((400 : Int) < (s.l.length : Int)) = True := eq_true (by omega)
      rw [if_pos h4] at kont
      simp only [go_sem, hgs, h4', decide_true]
      exact kont _ H'.up.tail
    · have h4' : ((400 : Int) < (s.l.length : Int)) = False := eq_false (by omega)
      rw [if_neg h4] at kont
      simp only [go_sem, hgs, h4', decide_false]
      exact kont _ H'.up.tail

theorem same_l {f g0 c0 : Int} {seed : ByteArray} {l : List Chs} {ba bb no : Nat} {o1 o2 l1 l2 : Option (Nat × Nat)} {co1 co2 cl1 cl2 : Option Nat} {h1 h2 : Hp} (R1 : Row 12 (.slice l1 l.length cl1 12) l.length (l.flatMap chsC) h1) (R2 : Row 12 (.slice l2 l.length cl2 12) l.length (l.flatMap chsC) h2)
    (hsh : ∀ c ∈ l, Shp c) (hl : l.length ≤ 100000) (H1 : ∃ r, HasH σ (h1 ++ r)) (H2 : ∃ r, HasH σ (h2 ++ r))
    (hga : σ.get ba = some (.cells [.int .i64 f, .int .i64 g0, .int .i64 c0, .str seed, .slice o1 no co1 1, .slice l1 l.length cl1 12] true)) (hgb : σ.get bb = some (.cells [.int .i64 f, .int .i64 g0, .int .i64 c0, .str seed, .slice o2 no co2 1, .slice l2 l.length cl2 12] true)) :
    ∀ (m i k : Nat), i + m = l.length → m < k → J (.exit 0) f9e15 σ = some () →
      loopK (f9L15 (callK Tryz.prog N ann d) dem N) f9a15 k J (f9e13 ba bb l.length (i : Int)) σ = some () := by
  intro m
  induction m with
  | zero =>
    intro i k hi hk kf
    obtain ⟨k, rfl⟩ : ∃ k', k = k' + 1 := ⟨k - 1, by omega⟩
    have hlt : ((i : Int) < (l.length : Int)) = False := eq_false (by omega)
    rw [loopK_succ]
    simp only [go_sem, hlt]
    exact kf
  | succ m ih =>
    intro i k hi hk kf
    obtain ⟨k, rfl⟩ : ∃ k', k = k' + 1 := ⟨k - 1, by omega⟩
    have hlt : ((i : Int) < (l.length : Int)) = True := eq_true (by omega)
    have h0 : ((0 : Int) ≤ i) = True := eq_true (by omega)
    have hni := List.getElem?_eq_getElem (l := l) (i := i) (by omega)
    obtain ⟨x, hx⟩ : ∃ x, l[i]'(by omega) = x := ⟨_, rfl⟩
    rw [hx] at hni
    obtain ⟨_, ht, hl8, hl4⟩ := hsh x (by rw [← hx]; exact List.getElem_mem _)
    obtain ⟨ns, ts⟩ := x
    simp only at ht hl8 hl4
    obtain ⟨y0, y1, y2, y3, y4, y5, y6, y7, rfl⟩ := list8 hl8
    obtain ⟨y8, y9, y10, y11, rfl⟩ := list4 hl4
    obtain ⟨r1, H1'⟩ := H1
    obtain ⟨r2, H2'⟩ := H2
    obtain ⟨b, rfl, q0, q1, q2, q3, q4, q5, q6, q7, q8, q9, q10, q11⟩ := chs_facts R1 H1' hni
    obtain ⟨b', rfl, p0, p1, p2, p3, p4, p5, p6, p7, p8, p9, p10, p11⟩ := chs_facts R2 H2' hni
    have hnat : ((i : Int)).toNat = i := by omega
    have hw : IntKind.i64.wrap ((i : Int) + 1) = ((i + 1 : Nat) : Int) := by rw [wrap_small (by omega) (by omega)]; rfl
    rw [loopK_succ]
    simp only [go_sem, hlt, h0, hnat, Nat.zero_add, hga, hgb, q0, q1, q2, q3, q4, q5, q6, q7, q8, q9, q10, q11, p0, p1, p2, p3, p4, p5, p6, p7, p8, p9, p10, p11, hw]
    exact ih (i + 1) k (by omega) (by omega) kf

theorem same_ok {f g0 c0 : Int} {seed : ByteArray} {odd : List Int} {l : List Chs} {o1 o2 l1 l2 : Option (Nat × Nat)} {co1 co2 cl1 cl2 : Option Nat} {q1 q2 h1 h2 r : Hp}
    (O1 : Row 1 (.slice o1 odd.length co1 1) odd.length (odd.map (AV.int .i64)) q1) (O2 : Row 1 (.slice o2 odd.length co2 1) odd.length (odd.map (AV.int .i64)) q2)
    (R1 : Row 12 (.slice l1 l.length cl1 12) l.length (l.flatMap chsC) h1) (R2 : Row 12 (.slice l2 l.length cl2 12) l.length (l.flatMap chsC) h2)
    (hsh : ∀ c ∈ l, Shp c) (hodd : odd.length ≤ 100000) (hl : l.length ≤ 100000) (hN : 100000 < N) (H : HasH σ r)
    (e1 : ∀ σ', HasH σ' r → ∃ r', HasH σ' (q1 ++ r')) (e2 : ∀ σ', HasH σ' r → ∃ r', HasH σ' (q2 ++ r')) (e3 : ∀ σ', HasH σ' r → ∃ r', HasH σ' (h1 ++ r')) (e4 : ∀ σ', HasH σ' r → ∃ r', HasH σ' (h2 ++ r'))
    (kont : ∀ σ', HasH σ' r → K (.bool true) σ' = some ()) :
    callK Tryz.prog N ann (d + 2) dem 9 [.agg [.int .i64 f, .int .i64 g0, .int .i64 c0, .str seed, .slice o1 odd.length co1 1, .slice l1 l.length cl1 12], .agg [.int .i64 f, .int .i64 g0, .int .i64 c0, .str seed, .slice o2 odd.length co2 1, .slice l2 l.length cl2 12]] σ K = some () := by
  have H1 := (H.new (.cells [.int .i64 f, .int .i64 g0, .int .i64 c0, .str seed, .slice o1 odd.length co1 1, .slice l1 l.length cl1 12] true)).new (.cells [.int .i64 f, .int .i64 g0, .int .i64 c0, .str seed, .slice o2 odd.length co2 1, .slice l2 l.length cl2 12] true)
  have n1 : (σ.next = σ.next + 1) = False := eq_false (by omega)
  have hga := H1.g2
  have hgb := H1.g1
  simp only [St.next_new] at hgb
  have Hr := H1.tail.tail
  have t1 : ((l.length : Int) != (l.length : Int)) = false := by simp
  rw [go1 9 rfl, f9_eq]
  simp only [go_sem, n1]
  refine ints_ok (r := r) O1 O2 hodd hN (e1 _ Hr) (e2 _ Hr) ?_
  simp only [go_sem, n1, t1, Bool.not_true]
  refine same_l R1 R2 hsh hl (e3 _ Hr) (e4 _ Hr) hga hgb l.length 0 N (by omega) (by omega) ?_
  simp only [go_sem]
  exact kont _ Hr
end Go.Proofs.YtnjhcfcnpapaiaaGreatDoor

set_option linter.unusedVariables false
set_option linter.unusedSimpArgs false
namespace Go.Proofs.YtnjhcfcnpapaiaaGreatDoor
open Go.AM
set_option maxRecDepth 100000
variable {N d : Nat} {dem : Bool} {σ : St} {K : AV → St → Option Unit} {J : KF Unit}

theorem lgR_small : ∀ (l : List Chs) (n : Nat), (∀ c ∈ l, Shp c) → lgR n l = false → ∀ c ∈ l, c.ok := by
  intro l
  induction l with
  | nil => intro n _ _ c h; cases h
  | cons x l ih =>
    intro n hs h c hc
    rw [lgR] at h
    split at h
    · cases h
    · rename_i hx
      rcases List.mem_cons.1 hc with rfl | hc
      · obtain ⟨h1, h2, h3, h4⟩ := hs c (by simp)
        refine ⟨h1, ?_, h3, h4⟩
        obtain ⟨ns, ts⟩ := c
        simp only at h4
        obtain ⟨y8, y9, y10, y11, rfl⟩ := list4 h4
        simp only [szs] at hx
        intro t ht
        simp only [List.mem_cons, List.not_mem_nil, or_false] at ht
        rcases ht with rfl | rfl | rfl | rfl <;> omega
      · exact ih _ (fun y hy => hs y (List.mem_cons_of_mem _ hy)) h c hc
theorem ok_shp {c : Chs} (h : c.ok) : Shp c := ⟨h.1, fun t ht => by have := h.2.1 t ht; omega, h.2.2.1, h.2.2.2⟩

/-- What is parsed is well formed. -/
theorem chosen_wf {t : ByteArray} (h : t.size ≤ 20000) : (chsOf t).ok := by
  obtain ⟨h8, h4⟩ := chosen_len t
  refine ⟨?_, ?_, h8, h4⟩
  · show ∀ n ∈ (chosenL t).1, i64 n
    unfold chosenL
    split
    · split
      · intro n hn
        obtain ⟨i, _, rfl⟩ := List.mem_map.1 hn
        exact numAt_i64 _ _
      · intro n hn
        simp [zn] at hn
        subst hn; exact ⟨by decide, by decide⟩
    · intro n hn
      simp [zn] at hn
      subst hn; exact ⟨by decide, by decide⟩
  · show ∀ x ∈ (chosenL t).2.1, x.size ≤ 20000
    unfold chosenL
    split
    · rename_i l hl
      split
      · intro x hx
        obtain ⟨i, _, rfl⟩ := List.mem_map.1 hx
        unfold txtAt
        split
        · rename_i hi
          have := unpack_sizes hl _ (List.getElem_mem hi)
          rw [List.getD_eq_getElem?_getD, List.getElem?_eq_getElem hi]
          simp only [Option.getD_some]
          omega
        · show (0 : Nat) ≤ _; omega
      · intro x hx
        simp [zt] at hx
        subst hx; show (0 : Nat) ≤ _; omega
    · intro x hx
      simp [zt] at hx
      subst hx; show (0 : Nat) ≤ _; omega
theorem parse_wf_l : ∀ (r : List ByteArray) (i : Nat), (∀ t ∈ r, t.size ≤ 20000) → ∀ c ∈ (parseR i r).2, c.ok := by
  intro r
  induction r with
  | nil => intro i _ c h; cases h
  | cons t r ih =>
    intro i hs c hc
    rw [parseR] at hc
    split at hc
    · cases hc
    · split at hc
      · cases hc
      · rcases List.mem_cons.1 hc with rfl | hc
        · exact chosen_wf (hs t (by simp))
        · exact ih _ (fun x hx => hs x (List.mem_cons_of_mem _ hx)) c hc
structure WfS (s : Scr) : Prop where
  f : i64 s.f
  g : i64 s.g
  c : i64 s.c
  odd : ∀ n ∈ s.odd, i64 n
  l : ∀ c ∈ s.l, c.ok
  ll : s.l.length ≤ 100000
  ol : s.odd.length ≤ 100000
theorem scr0_wf : WfS scr0 := ⟨⟨by decide, by decide⟩, ⟨by decide, by decide⟩, ⟨by decide, by decide⟩, fun _ h => (by cases h), fun _ h => (by cases h), by decide, by decide⟩
theorem headed_wf (s : ByteArray) : i64 (headedL s).f ∧ i64 (headedL s).g ∧ i64 (headedL s).c ∧ (∀ n ∈ (headedL s).odd, i64 n) ∧ (headedL s).odd.length ≤ s.size := by
  unfold headedL
  split
  · rename_i t0 t1 t2 t3 rest h
    refine ⟨numOf_i64 _, numOf_i64 _, numOf_i64 _, ?_, ?_⟩
    · intro n hn
      obtain ⟨t, _, rfl⟩ := List.mem_map.1 hn
      exact numOf_i64 t
    · have h1 := (unpack_back h).1
      have h2 := pack_len (t0 :: t1 :: t2 :: t3 :: rest)
      have h4 : s.size = (packAll (t0 :: t1 :: t2 :: t3 :: rest)).length := by rw [h1, mk_size]
      simp at h2 ⊢; omega
  · exact ⟨⟨by decide, by decide⟩, ⟨by decide, by decide⟩, ⟨by decide, by decide⟩, fun _ h => (by cases h), Nat.zero_le _⟩
theorem parse_wf {t : ByteArray} (h : t.size ≤ 20000) : WfS (parseS t).1 := by
  unfold parseS
  split
  · rename_i hd rest hu
    have hsz := unpack_sizes hu
    split
    · exact scr0_wf
    · split
      · exact scr0_wf
      · rename_i hp
        obtain ⟨h1, h2, h3, h4, h5⟩ := headed_wf hd
        have hhd := hsz hd (by simp)
        obtain ⟨_, i2, i3, _⟩ := parse_back rest 0 hp
        exact ⟨h1, h2, h3, h4, parse_wf_l rest 0 fun t ht => by have := hsz t (by simp [ht]); omega, by have := i3 (by omega); show (parseR 0 rest).2.length ≤ _; omega, by show (headedL hd).odd.length ≤ _; omega⟩
  · exact scr0_wf
theorem parse_bad {t : ByteArray} (h : (parseS t).2.2 ≠ 0) : (parseS t).1 = scr0 := by
  unfold parseS at h ⊢
  split
  · split
    · rfl
    · split
      · rfl
      · rename_i e hok p hp
        rw [e] at h
        simp only [hok, hp] at h
        simp at h
  · rfl
theorem parts_small {t : ByteArray} (h : t.size ≤ 20000) : ∀ a r, unpackL t = some (a :: r) → a.size ≤ 100000 ∧ (∀ x ∈ r, x.size < 1000000) ∧ r.length < 100000 := by
  intro a r e
  have hsz := unpack_sizes e
  have h1 := (unpack_back e).1
  have h2 := pack_len (a :: r)
  have h4 : t.size = (packAll (a :: r)).length := by rw [h1, mk_size]
  refine ⟨by have := hsz a (by simp); omega, fun x hx => by have := hsz x (by simp [hx]); omega, by simp at h2; omega⟩

/-- The second half: there and back of a text. -/
theorem back2 {t : ByteArray} {g : Hp} (hg : ∀ σ : St, (∀ p ∈ g, σ.get p.1 = some p.2) → goodS σ = true) (hN : 100000 < N) (ht : t.size ≤ 20000) (H : HasH σ g) :
    runK Tryz.prog (callK Tryz.prog N ann (d + 9)) true N f3c14 f3a14 (bodyC Tryz.prog f3rs yes) (f3e19 t) σ = some () := by
  simp only [go_sem]
  refine parse_ok hg hN (by omega) (parts_small ht) H ?_
  intro σ1 oo co ho ol cl hl hVo hVl H1
  have hwf := parse_wf ht
  have hfp := @format_parse t
  have hpb := @parse_bad t
  obtain ⟨p, hp⟩ : ∃ p, parseS t = p := ⟨_, rfl⟩
  rw [hp] at hVo hVl hwf hfp hpb ⊢
  obtain ⟨s, a, e⟩ := p
  simp only at hVo hVl hwf hfp hpb
  have H2 := (H1.new (.cells zsC true)).put (.cells [.int .i64 s.f, .int .i64 s.g, .int .i64 s.c, .str s.seed, .slice oo s.odd.length co 1, .slice ol s.l.length cl 12] true)
  simp only [zsC] at H2
  have hgd2 := hg _ fun p hp => H2.get p (by simp [hp])
  by_cases he : e = 0
  · obtain ⟨h1, h2⟩ := hfp he
    have e1 : (e != 0) = false := by rw [he]; rfl
    simp only [go_sem, e1]
    refine format_ok (s := s) (g := (σ1.next, .cells [.int .i64 s.f, .int .i64 s.g, .int .i64 s.c, .str s.seed, .slice oo s.odd.length co 1, .slice ol s.l.length cl 12] true) :: g) (fun σ h => hg σ fun p hp => h p (by simp [hp])) (Row.ofVec hVo) (Row.ofVec hVl) hwf.odd hwf.l hN hwf.f hwf.g hwf.c (H2.perm (by
      refine (List.Perm.trans ?_ HasH.pc)
      exact (List.perm_middle.symm.trans (List.Perm.append_left hl List.perm_middle.symm)))) ?_
    intro σ2 H3
    have hgd3 := hg σ2 fun p hp => H3.get p (by simp [hp])
    unfold formatT formatE
    simp only [h2, Bool.false_eq_true, if_false, h1]
    have e0 : ((0 : Int) == 0) = true := rfl
    simp only [go_sem, e0, decide_true, ticks1 hgd3]
    rfl
  · have e1 : (e != 0) = true := by simpa using he
    have hs0 := hpb he
    simp only [go_sem, e1]
    refine ref_ok H2 ?_
    intro σ2 H3
    subst hs0
    simp only [go_sem]
    refine same_ok (f := 0) (g0 := 0) (c0 := 0) (seed := ⟨#[]⟩) (odd := []) (l := []) (Row.ofVec hVo) (Row.ofVec (Vec.nil 1)) (Row.ofVec hVl) (Row.ofVec (Vec.nil 12)) (fun _ h => (by cases h)) (by simp) (by simp) hN H3 (fun σ' h => ?_) (fun σ' h => ⟨_, h⟩) (fun σ' h => ?_) (fun σ' h => ⟨_, h⟩) ?_
    · exact ⟨_, h.tail.mid⟩
    · exact ⟨_, h.tail⟩
    intro σ3 H4
    have hgd4 := hg σ3 fun p hp => H4.get p (by simp [hp])
    simp only [go_sem, ticks1 hgd4]
    rfl

theorem back_run {s : Scr} {t : ByteArray} {oo ol : Option (Nat × Nat)} {co cl : Option Nat} {ho hl g : Hp} (hg : ∀ σ : St, (∀ p ∈ g, σ.get p.1 = some p.2) → goodS σ = true)
    (hRo : Row 1 (.slice oo s.odd.length co 1) s.odd.length (s.odd.map (AV.int .i64)) ho) (hRl : Row 12 (.slice ol s.l.length cl 12) s.l.length (s.l.flatMap chsC) hl)
    (hsh : ∀ c ∈ s.l, Shp c) (hodd : ∀ n ∈ s.odd, i64 n) (hf : i64 s.f) (hg0 : i64 s.g) (hc0 : i64 s.c) (hseed : s.seed.size ≤ 2 ^ 50) (hlen : s.l.length ≤ 2 ^ 60) (hN : 100000 < N) (hN2 : s.l.length < N) (ht : t.size ≤ 2 ^ 50)
    (H : HasH σ (ho ++ (hl ++ g))) :
    callK Tryz.prog N ann (d + 10) true 3 [.agg [.int .i64 s.f, .int .i64 s.g, .int .i64 s.c, .str s.seed, .slice oo s.odd.length co 1, .slice ol s.l.length cl 12], .str t] σ yes = some () := by
  have H1 := H.new (.cells [.int .i64 s.f, .int .i64 s.g, .int .i64 s.c, .str s.seed, .slice oo s.odd.length co 1, .slice ol s.l.length cl 12] true)
  rw [go1 3 rfl, f3_eq]
  simp only [go_sem]
  refine large_ok (ho := ho) (g := ho ++ ((σ.next, .cells [.int .i64 s.f, .int .i64 s.g, .int .i64 s.c, .str s.seed, .slice oo s.odd.length co 1, .slice ol s.l.length cl 12] true) :: g)) hRl hsh hlen hseed hN2 (H1.perm (by
    refine (List.Perm.trans ?_ HasH.pc)
    exact (List.perm_middle.symm.trans (List.Perm.append_left ho List.perm_middle.symm))) ) ?_
  intro σ1 H2
  have H3 := H2.mid
  have hgd1 : goodS σ1 = true := hg σ1 fun p hp => H2.get p (by simp [hp])
  cases hlg : largeB s with
  | true =>
    simp only [go_sem, ticks1 hgd1]
    rfl
  | false =>
    by_cases h2 : 20000 < t.size
    · have h2' : ((20000 : Int) < (t.size : Int)) = True := eq_true (by omega)
      simp only [go_sem, h2', decide_true, ticks1 hgd1]
      rfl
    have h2' : ((20000 : Int) < (t.size : Int)) = False := eq_false (by omega)
    have hok : ∀ c ∈ s.l, c.ok := by
      unfold largeB at hlg
      split at hlg
      · cases hlg
      · rename_i h
        exact lgR_small _ _ hsh (by simpa using h)
    have hgs : σ1.get σ.next = some (.cells [.int .i64 s.f, .int .i64 s.g, .int .i64 s.c, .str s.seed, .slice oo s.odd.length co 1, .slice ol s.l.length cl 12] true) := H2.get (σ.next, _) (by simp)
    simp only [go_sem, h2', decide_false, hgs]
    refine format_ok (fun σ h => hg σ fun p hp => h p (by simp [hp])) hRo hRl hodd hok hN hf hg0 hc0 H3 ?_
    intro σ2 H4
    have hgs2 : σ2.get σ.next = some (.cells [.int .i64 s.f, .int .i64 s.g, .int .i64 s.c, .str s.seed, .slice oo s.odd.length co 1, .slice ol s.l.length cl 12] true) := H4.get (σ.next, _) (by simp)
    cases hfb : formatB s with
    | true =>
      unfold formatT formatE
      simp only [hfb, if_true]
      have e2 : ((2 : Int) == 0) = false := rfl
      simp only [go_sem, e2]
      have := back2 (d := d) (σ := σ2) (t := t) (g := ho ++ (hl ++ ((σ.next, .cells [.int .i64 s.f, .int .i64 s.g, .int .i64 s.c, .str s.seed, .slice oo s.odd.length co 1, .slice ol s.l.length cl 12] true) :: g))) (fun σ h => hg σ fun p hp => h p (by simp [hp])) hN (by omega) H4
      simp only [go_sem] at this
      exact this
    | false =>
      unfold formatT formatE
      simp only [hfb, Bool.false_eq_true, if_false]
      have e0 : ((0 : Int) == 0) = true := rfl
      have hsok : s.ok := by
        unfold formatB wrongB at hfb
        split at hfb
        · cases hfb
        · split at hfb
          · cases hfb
          · have := of_decide_eq_false hfb
            exact ⟨hf, hg0, hc0, by omega, hodd, by omega, hok⟩
      have hl3 : s.l.length ≤ 300 := by
        unfold formatB at hfb
        split at hfb
        · cases hfb
        · omega
      simp only [go_sem, e0]
      refine parse_ok (g := ho ++ (hl ++ ((σ.next, .cells [.int .i64 s.f, .int .i64 s.g, .int .i64 s.c, .str s.seed, .slice oo s.odd.length co 1, .slice ol s.l.length cl 12] true) :: g))) (fun σ h => hg σ fun p hp => h p (by simp [hp])) hN (format_size hsok hl3) (parse_parts hsok hl3) H4 ?_
      intro σ3 oo' co' ho' ol' cl' hl' hVo hVl H5
      rw [parse_format hsok hl3] at hVo hVl ⊢
      simp only at hVo hVl
      have b0 : ((0 : Int) != 0) = false := rfl
      simp only [go_sem, b0]
      have H6 := (H5.new (.cells zsC true)).put (.cells [.int .i64 s.f, .int .i64 s.g, .int .i64 s.c, .str s.seed, .slice oo' s.odd.length co' 1, .slice ol' s.l.length cl' 12] true)
      simp only [zsC] at H6
      refine ref_ok H6 ?_
      intro σ4 H7
      have hgs4 : σ4.get σ.next = some (.cells [.int .i64 s.f, .int .i64 s.g, .int .i64 s.c, .str s.seed, .slice oo s.odd.length co 1, .slice ol s.l.length cl 12] true) := H7.get (σ.next, _) (by simp)
      have hgs3 : σ3.get σ.next = some (.cells [.int .i64 s.f, .int .i64 s.g, .int .i64 s.c, .str s.seed, .slice oo s.odd.length co 1, .slice ol s.l.length cl 12] true) := H5.get (σ.next, _) (by simp)
      have n3 : (σ.next = σ3.next) = False := eq_false (Nat.ne_of_lt (H5.lt (σ.next, .cells [.int .i64 s.f, .int .i64 s.g, .int .i64 s.c, .str s.seed, .slice oo s.odd.length co 1, .slice ol s.l.length cl 12] true) (by simp)))
      simp only [go_sem, hgs4, hgs3, n3]
      refine ref_ok H7 ?_
      intro σ5 H8
      simp only [go_sem]
      refine same_ok (odd := s.odd) (l := s.l) (Row.ofVec hVo) hRo (Row.ofVec hVl) hRl (fun c h => ok_shp (hok c h)) (by have := hsok.odds; omega) (by omega) hN H8 (fun σ' h => ⟨_, h.tail.mid⟩) (fun σ' h => ⟨_, h.tail.mid3⟩) (fun σ' h => ⟨_, h.tail⟩) (fun σ' h => ⟨_, h.tail.mid4⟩) ?_
      intro σ6 H9
      simp only [go_sem, Bool.not_true]
      have := back2 (d := d) (σ := σ6) (t := t) (fun σ h => hg σ fun p hp => h p (by simp [hp])) hN (by omega) H9
      simp only [go_sem] at this
      exact this
end Go.Proofs.YtnjhcfcnpapaiaaGreatDoor
