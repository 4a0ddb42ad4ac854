/- The bag that is full: its law's walk. -/
import Derived.Test.YtdebkakkeaanaaaBS4
import Derived.Test.YtdebkakkeaanaaaBagFull
namespace Go.Proofs.Ytdebkakkeaanaaa
open Go.AM
set_option maxRecDepth 100000
set_option linter.unusedSimpArgs false
variable {N d : Nat} {σ : St} {K : AV → St → Option Unit}

def okItem (x : Item) : Prop := ¬ (endB x.fr = false ∨ endB x.to = false ∨ x.since < 0) ∧ ¬ x.text.size > 1048576

theorem putE_ok {L : List Item} {x : Item} (h : okItem x) (hl : L.length ≠ 4096) : putE L x = 0 := by simp only [putE, h.1, h.2, hl, if_false]
theorem putE_full {L : List Item} {x : Item} (h : okItem x) (hl : L.length = 4096) : putE L x = 5 := by simp only [putE, h.1, h.2, hl, if_false, if_true]

theorem full_loop1 {b : Nat} {more : Int} {r : Hp} {J : KF Unit} :
    ∀ (m i n : Nat) (L : List Item) (h : Hp) (σ : St), m + i = 4096 → m < n → L.length = i → (∀ x ∈ L, okItem x) → BagP b L 0 h → HasH σ (h ++ r) →
      (∀ σ' L' h', L'.length = 4096 → (∀ x ∈ L', okItem x) → BagP b L' 0 h' → HasH σ' (h' ++ r) → J (.exit 0) (f4e8 more (some (b, 0))) σ' = some ()) →
      loopK (f4L25 (callK Try.prog N ann (d + 2)) N) f4a25 n J (f4e12 more (some (b, 0)) i) σ = some () := by
  intro m
  induction m with
  | zero =>
    intro i n L h σ hm hn hl ho hB H k
    obtain ⟨n, rfl⟩ : ∃ n', n = n' + 1 := ⟨n - 1, by omega⟩
    have h1 : ((i:Int) < 4096) = False := eq_false (by omega)
    rw [loopK_succ]
    simp only [go_sem, h1]
    exact k σ L h (by omega) ho hB H
  | succ m ih =>
    intro i n L h σ hm hn hl ho hB H k
    obtain ⟨n, rfl⟩ : ∃ n', n = n' + 1 := ⟨n - 1, by omega⟩
    have h1 : ((i:Int) < 4096) = True := eq_true (by omega)
    have hw1 : IntKind.i64.wrap ((i:Int) + 1) = (i:Int) + 1 := wrap_small (n := (i:Int) + 1) (by omega) (by omega)
    rw [loopK_succ]
    simp only [go_sem, h1]
    have hmod : Int.tmod (i:Int) 64 = (i % 64 : Nat) := by
      rw [Int.tmod_eq_emod_of_nonneg (by omega)]; omega
    have hx : okItem ⟨0, Int.tmod i 64, 0, ByteArray.mk #[]⟩ := by
      refine ⟨?_, show ¬ (ByteArray.mk #[]).size > 1048576 by decide⟩
      have : endB 0 = true := rfl
      have : endB (Int.tmod i 64) = true := by rw [hmod]; unfold endB; simp; omega
      simp_all
    refine put_ok (x := ⟨0, Int.tmod i 64, 0, ByteArray.mk #[]⟩) hB H (by decide) (by omega) ?_
    have e := putE_ok (L := L) hx (by omega)
    intro σ2 h2 hB2 H2
    simp only [putL, putD, e, if_true, show ¬ (0:Int) = 5 by decide, if_false] at hB2
    simp only [go_sem, e, hw1]
    exact ih (i + 1) n _ h2 σ2 (by omega) (by omega) (by simp [hl]) (by intro x hx'; rcases List.mem_append.1 hx' with h | h; exact ho x h; simp at h; subst h; exact hx) hB2 H2 k

theorem full_loop2 {b : Nat} {more : Int} {r : Hp} {J : KF Unit} {L : List Item} (hL : L.length = 4096) (hmore : 0 ≤ more ∧ more ≤ 50) :
    ∀ (m i n : Nat) (h : Hp) (σ : St), (m + i : Nat) = more → m < n → BagP b L i h → HasH σ (h ++ r) →
      (∀ σ' h', BagP b L more h' → HasH σ' (h' ++ r) → J (.exit 2) (f4e8 more (some (b, 0))) σ' = some ()) →
      loopK (f4L46 (callK Try.prog N ann (d + 2)) N) f4a46 n J (f4e19 more (some (b, 0)) i) σ = some () := by
  intro m
  induction m with
  | zero =>
    intro i n h σ hm hn hB H k
    obtain ⟨n, rfl⟩ : ∃ n', n = n' + 1 := ⟨n - 1, by omega⟩
    have h1 : ((i:Int) < more) = False := eq_false (by omega)
    rw [loopK_succ]
    simp only [go_sem, h1]
    obtain rfl : more = i := by omega
    exact k σ h hB H
  | succ m ih =>
    intro i n h σ hm hn hB H k
    obtain ⟨n, rfl⟩ : ∃ n', n = n' + 1 := ⟨n - 1, by omega⟩
    have h1 : ((i:Int) < more) = True := eq_true (by omega)
    have hw1 : IntKind.i64.wrap ((i:Int) + 1) = (i:Int) + 1 := wrap_small (n := (i:Int) + 1) (by omega) (by omega)
    rw [loopK_succ]
    simp only [go_sem, h1]
    have e := putE_full (L := L) (x := .zero) ⟨by decide, by decide⟩ hL
    refine put_ok (x := .zero) hB H (by omega) (by omega) ?_
    intro σ2 h2 hB2 H2
    simp only [putL, putD, e, if_true, show ¬ (5:Int) = 0 by decide, if_false] at hB2
    simp only [go_sem, e, hw1]
    exact ih (i + 1) n h2 σ2 (by omega) (by omega) hB2 H2 k

theorem full_ok {more : Int} {r : Hp} (H : HasH σ r) (hN : 5000 ≤ N) (k : ∀ σ', HasH σ' r → K (.bool true) σ' = some ()) :
    callK Try.prog N ann (d + 5) 4 [.int .i64 more] σ K = some () := by
  rw [callK_succ, f4_eq]
  by_cases h0 : more < 0
  · simp only [go_sem, h0]
    refine three_ok H ?_
    intro σ' H'
    simp only [go_sem]
    exact k _ H'
  by_cases h1 : 50 < more
  · simp only [go_sem, h0, h1]
    refine three_ok H ?_
    intro σ' H'
    simp only [go_sem]
    exact k _ H'
  simp only [go_sem, h0, h1]
  refine new_ok H ?_
  intro σ1 b h1 hB1 H1
  simp only [go_sem]
  refine full_loop1 4096 0 N [] h1 σ1 (by omega) (by omega) rfl (by simp) hB1 H1 ?_
  intro σ2 L h2 hL ho hB2 H2
  simp only [go_sem]
  refine full_loop2 hL (by omega) more.toNat 0 N h2 σ2 (by omega) (by omega) hB2 H2 ?_
  intro σ3 h3 hB3 H3
  simp only [go_sem]
  refine copy_ok hB3 H3 (by omega) (by omega) 0 ?_
  have hr : inR L 0 := by unfold inR; omega
  obtain ⟨x, hx⟩ : ∃ x, L[0]? = some x := ⟨_, List.getElem?_eq_getElem (by omega)⟩
  have hs : seeX L 0 = x := by simp only [seeX, hr, if_true, Int.toNat_zero, hx, Option.getD_some]
  have e := putE_full (ho x (List.mem_of_getElem? hx)) hL
  simp only [copyE, copyL, copyD, hr, if_true, hs, putL, putD, e, show ¬ (5:Int) = 0 by decide, if_false]
  intro σ4 h4 hB4 H4
  obtain ⟨v, hs, rfl, hv⟩ := hB4
  obtain ⟨o, c, rfl⟩ := hv.sl
  have hg : σ4.get b = _ := H4.g1
  have hw : IntKind.i64.wrap (more + 1) = more + 1 := wrap_small (n := more + 1) (by omega) (by omega)
  simp only [go_sem, len_eq hg, dropped_eq hg, hL, hw, show ((4096 : Nat) : Int) == 4096 from rfl, BEq.rfl]
  refine three_ok H4.right ?_
  intro σ5 H5
  simp only [go_sem]
  exact k _ H5

end Go.Proofs.Ytdebkakkeaanaaa
