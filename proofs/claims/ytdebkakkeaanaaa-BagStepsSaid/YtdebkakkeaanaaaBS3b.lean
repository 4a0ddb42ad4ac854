/- What the bag's functions do: copies, places, ages. -/
import Derived.Test.YtdebkakkeaanaaaBS3
import Derived.Test.YtdebkakkeaanaaaBagLook
namespace Go.Proofs.Ytdebkakkeaanaaa
open Go.AM
set_option maxRecDepth 100000
set_option linter.unusedSimpArgs false
variable {N d : Nat} {σ : St} {K : AV → St → Option Unit}

def hit (L : List Item) (fr to : Int) (j : Nat) : Bool := match L[j]? with | some x => x.fr == fr && x.to == to | none => false
def places (L : List Item) (fr to : Int) (i m : Nat) : List Nat := (List.range' i m).filter (hit L fr to)
def ints (l : List Nat) : List AV := l.map fun (j : Nat) => AV.int .i64 j

theorem between_loop {b : Nat} {L : List Item} {D fr to : Int} {h r : Hp} {J : KF Unit} (hB : BagP b L D h) (hL : L.length ≤ 4096) :
    ∀ (m i n : Nat) (acc : List Nat) (o : Option (Nat × Nat)) (c : Option Nat) (ho : Hp) (σ : St), m + i = L.length → m < n → acc.length ≤ i →
      Vec 1 (.slice o acc.length c 1) acc.length (ints acc) ho → HasH σ (h ++ (ho ++ r)) →
      (∀ σ' o' c' ho', Vec 1 (.slice o' (acc ++ places L fr to i m).length c' 1) (acc ++ places L fr to i m).length (ints (acc ++ places L fr to i m)) ho' → HasH σ' (h ++ (ho' ++ r)) →
        J (.exit 0) (f16e6 o' (acc ++ places L fr to i m).length c') σ' = some ()) →
      loopK (f16L9 (callK Try.prog N ann d) N) f16a9 n J (f16e4 (some (b, 0)) fr to o acc.length c L.length i) σ = some () := by
  obtain ⟨v, hs, rfl, hv⟩ := hB
  obtain ⟨ob, cb, rfl⟩ := hv.sl
  intro m
  induction m with
  | zero =>
    intro i n acc o c ho σ hm hn ha hw H k
    obtain ⟨n, rfl⟩ : ∃ n', n = n' + 1 := ⟨n - 1, by omega⟩
    have h1 : ((i:Int) < L.length) = False := eq_false (by omega)
    rw [loopK_succ]
    simp only [go_sem, h1]
    have := k σ o c ho (by simpa [places] using hw) H
    simpa [places] using this
  | succ m ih =>
    intro i n acc o c ho σ hm hn ha hw H k
    obtain ⟨n, rfl⟩ : ∃ n', n = n' + 1 := ⟨n - 1, by omega⟩
    have h0 : ((0:Int) ≤ i) = True := eq_true (by omega)
    have h1 : ((i:Int) < L.length) = True := eq_true (by omega)
    obtain ⟨x, hx⟩ : ∃ x, L[i]? = some x := ⟨_, List.getElem?_eq_getElem (by omega)⟩
    obtain ⟨-, bs, junk, rfl, rfl, -⟩ := hv.row (by omega)
    obtain ⟨q0, q1, q2, q3⟩ := flat_at hx junk
    have hg : σ.get b = _ := H.g1
    have hgs : σ.get bs = _ := H.g2
    have hbs := H.l2
    have hbsn : (bs = σ.next) = False := eq_false (by omega)
    have hti : ((i:Int)).toNat = i := by omega
    have hw1 : IntKind.i64.wrap ((i:Int) + 1) = (i:Int) + 1 := wrap_small (n := (i:Int) + 1) (by omega) (by omega)
    rw [loopK_succ]
    have hhit : hit L fr to i = (x.fr == fr && x.to == to) := by simp only [hit, hx]
    have next : ∀ (acc' : List Nat) (o' : Option (Nat × Nat)) (c' : Option Nat) (ho' : Hp) (σ' : St), acc'.length ≤ i + 1 → acc' ++ places L fr to (i + 1) m = acc ++ places L fr to i (m + 1) →
        Vec 1 (.slice o' acc'.length c' 1) acc'.length (ints acc') ho' → HasH σ' ([(b, Blk.cells [AV.slice (some (bs, 0)) L.length cb 4, AV.int IntKind.i64 D] true), (bs, Blk.cells (flat L ++ junk) true)] ++ (ho' ++ r)) →
        loopK (f16L9 (callK Try.prog N ann d) N) f16a9 n J (f16e4 (some (b, 0)) fr to o' acc'.length c' L.length ((i:Int) + 1)) σ' = some () := by
      intro acc' o' c' ho' σ' hl he hv' H'
      exact ih (i + 1) n acc' o' c' ho' σ' (by omega) (by omega) hl hv' H' (by rw [he]; exact k)
    by_cases hf : x.fr = fr
    · have hf' : (x.fr == fr) = true := by simpa using hf
      by_cases ht : x.to = to
      · have ht' : (x.to == to) = true := by simpa using ht
        have hp : places L fr to i (m + 1) = i :: places L fr to (i + 1) m := by simp [places, List.range'_succ, hhit, hf', ht']
        have H2 := (((H.new (.cells Item.zero.cells true)).put (.cells x.cells true)).tail.new (.cells [AV.int .i64 i] true)).tail
        obtain ⟨o', c', σ', h', happ, hv', H'⟩ := hw.app (bytes := 8) (k := 1) (news := [AV.int .i64 i]) (HasH.mid (h1 := [_, _]) H2) (by decide) (by decide) rfl (by omega)
        simp only [Item.cells, Item.zero] at happ
        simp only [go_sem, h1, h0, hg, hgs, hbsn, hti, q0, q1, q2, q3, hf', ht', elems_pos (show 1 ≠ 0 by decide), happ, hw1]
        have := next (acc ++ [i]) o' c' h' σ' (by simp; omega) (by rw [hp]; simp) (by simpa [ints] using hv') H'.mid
        simpa using this
      · have ht' : (x.to == to) = false := by simpa using ht
        have hp : places L fr to i (m + 1) = places L fr to (i + 1) m := by simp [places, List.range'_succ, hhit, ht']
        simp only [go_sem, h1, h0, hg, hgs, hbsn, hti, q0, q1, q2, q3, hf', ht', hw1]
        exact next acc o c ho _ (by omega) (by rw [hp]) hw (((H.new _).put _).tail)
    · have hf' : (x.fr == fr) = false := by simpa using hf
      have hp : places L fr to i (m + 1) = places L fr to (i + 1) m := by simp [places, List.range'_succ, hhit, hf']
      simp only [go_sem, h1, h0, hg, hgs, hbsn, hti, q0, q1, q2, q3, hf', hw1]
      exact next acc o c ho _ (by omega) (by rw [hp]) hw (((H.new _).put _).tail)

theorem between_ok {b : Nat} {L : List Item} {D fr to : Int} {h r : Hp} (hB : BagP b L D h) (H : HasH σ (h ++ r)) (hL : L.length ≤ 4096) (hN : 5000 ≤ N)
    (k : ∀ σ' o' c' ho', Vec 1 (.slice o' (places L fr to 0 L.length).length c' 1) (places L fr to 0 L.length).length (ints (places L fr to 0 L.length)) ho' → HasH σ' (h ++ (ho' ++ r)) →
        K (.slice o' (places L fr to 0 L.length).length c' 1) σ' = some ()) :
    callK Try.prog N ann (d + 2) 16 [.ptr (some (b, 0)), .int .i64 fr, .int .i64 to] σ K = some () := by
  have hB' := hB
  obtain ⟨v, hs, rfl, hv⟩ := hB
  obtain ⟨o, c, rfl⟩ := hv.sl
  have hg : σ.get b = _ := H.g1
  rw [callK_succ, f16_eq]
  simp only [go_sem, len_eq hg]
  refine between_loop (fr := fr) (to := to) (r := r) hB' hL L.length 0 N [] none (some 0) [] σ (by omega) (by omega) (by simp) (by simpa [ints] using Vec.nil 1) H ?_
  intro σ' o' c' ho' hv' H'
  simp only [go_sem]
  simp only [List.nil_append] at hv' ⊢
  exact k _ _ _ _ hv' H'

def older (L : List Item) (t : Int) : Nat := L.countP fun x => decide (x.since < t)

theorem older_loop {b : Nat} {L : List Item} {D t : Int} {h r : Hp} {J : KF Unit} (hB : BagP b L D h) (hL : L.length ≤ 4096) :
    ∀ (m i n : Nat) (acc : Nat) (σ : St), m + i = L.length → m < n → acc ≤ i → HasH σ (h ++ r) →
      (∀ σ', HasH σ' (h ++ r) → J (.exit 0) (f20e6 ((acc + older (L.drop i) t : Nat) : Int)) σ' = some ()) →
      loopK (f20L9 (callK Try.prog N ann d) N) f20a9 n J (f20e4 (some (b, 0)) t acc L.length i) σ = some () := by
  obtain ⟨v, hs, rfl, hv⟩ := hB
  obtain ⟨ob, cb, rfl⟩ := hv.sl
  intro m
  induction m with
  | zero =>
    intro i n acc σ hm hn ha H k
    obtain ⟨n, rfl⟩ : ∃ n', n = n' + 1 := ⟨n - 1, by omega⟩
    have h1 : ((i:Int) < L.length) = False := eq_false (by omega)
    rw [loopK_succ]
    simp only [go_sem, h1]
    have := k σ H
    rw [List.drop_eq_nil_of_le (by omega)] at this
    exact this
  | succ m ih =>
    intro i n acc σ hm hn ha H k
    obtain ⟨n, rfl⟩ : ∃ n', n = n' + 1 := ⟨n - 1, by omega⟩
    have h0 : ((0:Int) ≤ i) = True := eq_true (by omega)
    have h1 : ((i:Int) < L.length) = True := eq_true (by omega)
    obtain ⟨x, hx⟩ : ∃ x, L[i]? = some x := ⟨_, List.getElem?_eq_getElem (by omega)⟩
    obtain ⟨-, bs, junk, rfl, rfl, -⟩ := hv.row (by omega)
    obtain ⟨q0, q1, q2, q3⟩ := flat_at hx junk
    have hg : σ.get b = _ := H.g1
    have hgs : σ.get bs = _ := H.g2
    have hti : ((i:Int)).toNat = i := by omega
    have hw1 : IntKind.i64.wrap ((i:Int) + 1) = (i:Int) + 1 := wrap_small (n := (i:Int) + 1) (by omega) (by omega)
    have hw2 : IntKind.i64.wrap ((acc:Int) + 1) = (acc:Int) + 1 := wrap_small (n := (acc:Int) + 1) (by omega) (by omega)
    have hd : L.drop i = x :: L.drop (i + 1) := by
      rw [List.drop_eq_getElem_cons (by omega)]; congr 1; rw [List.getElem?_eq_getElem (by omega)] at hx; exact Option.some.inj hx
    rw [loopK_succ]
    by_cases hf : x.since < t
    · have e : older (L.drop i) t = older (L.drop (i + 1)) t + 1 := by rw [hd]; simp [older, hf]
      simp only [go_sem, h1, h0, hg, hgs, hti, q0, q1, q2, q3, hf, hw1, hw2]
      have := ih (i + 1) n (acc + 1) σ (by omega) (by omega) (by omega) H (by rw [show acc + 1 + older (L.drop (i + 1)) t = acc + older (L.drop i) t by omega]; exact k)
      exact this
    · have e : older (L.drop i) t = older (L.drop (i + 1)) t := by rw [hd]; simp [older, hf]
      simp only [go_sem, h1, h0, hg, hgs, hti, q0, q1, q2, q3, hf, hw1, hw2]
      exact ih (i + 1) n acc σ (by omega) (by omega) (by omega) H (by rw [← e]; exact k)

theorem older_ok {b : Nat} {L : List Item} {D t : Int} {h r : Hp} (hB : BagP b L D h) (H : HasH σ (h ++ r)) (hL : L.length ≤ 4096) (hN : 5000 ≤ N)
    (k : ∀ σ', HasH σ' (h ++ r) → K (.int .i64 (older L t : Nat)) σ' = some ()) :
    callK Try.prog N ann (d + 2) 20 [.ptr (some (b, 0)), .int .i64 t] σ K = some () := by
  have hB' := hB
  obtain ⟨v, hs, rfl, hv⟩ := hB
  obtain ⟨o, c, rfl⟩ := hv.sl
  have hg : σ.get b = _ := H.g1
  rw [callK_succ, f20_eq]
  simp only [go_sem, len_eq hg]
  refine older_loop (r := r) hB' hL L.length 0 N 0 σ (by omega) (by omega) (by simp) H ?_
  intro σ' H'
  simp only [go_sem]
  simpa using k _ H'

end Go.Proofs.Ytdebkakkeaanaaa
