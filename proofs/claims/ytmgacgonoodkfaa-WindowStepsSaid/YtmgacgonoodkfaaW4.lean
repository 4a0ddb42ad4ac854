/- A window's slots. -/
import Derived.Test.YtmgacgonoodkfaaW2
import Derived.Test.YtmgacgonoodkfaaWiAt
import Derived.Test.YtmgacgonoodkfaaWiNote
namespace Go.Proofs.Ytmgacgonoodkfaa
open Go.AM
set_option maxRecDepth 100000
set_option linter.unusedSimpArgs false
set_option linter.unusedVariables false
variable {N d : Nat} {dem : Bool} {σ : St} {K : AV → St → Option Unit}

theorem keyArg_place (v n : Int) : keyArg (Program.mk Try.progTables Try.funcs) 105 (.agg [.int .i64 v, .int .i64 n]) = some (true, [.int .i64, .int .i64], [.int .i64 v, .int .i64 n]) := by
  have h : keySh (Program.mk Try.progTables Try.funcs) 105 = some (true, [.int .i64, .int .i64]) := by kernel_rfl
  simp [keyArg, h, keyCells, eqCells, eqCell, AV.toAgg]

theorem find_en (es : List En) (v n : Int) : (∃ e ∈ es, e.view = v ∧ e.number = n ∧ ∃ i, findKey true [.int .i64, .int .i64] [.int .i64 v, .int .i64 n] (es.map En.av) 0 = some (some (i, .ptr (some (e.s, 0))))) ∨
    ((∀ e ∈ es, ¬ (e.view = v ∧ e.number = n)) ∧ findKey true [.int .i64, .int .i64] [.int .i64 v, .int .i64 n] (es.map En.av) 0 = some none) := by
  rcases EK.find (v, n) es 0 with ⟨j, e, h1, h2, h3⟩ | ⟨h1, h2⟩
  · left
    have hk : (e.view, e.number) = (v, n) := h2
    simp only [Prod.mk.injEq] at hk
    exact ⟨e, List.mem_of_getElem? h1, hk.1, hk.2, _, h3⟩
  · right
    refine ⟨fun e he hk => h1 e he ?_, h2⟩
    show (e.view, e.number) = (v, n)
    rw [hk.1, hk.2]

theorem at_ok {b ms mb : Nat} {x : Wn} {h r : Hp} (W : WinP b ms mb x h) (H : HasH σ (h ++ r)) (hN : 10 ≤ N) (v n : Int)
    (kbad : askE x.low v n ≠ 0 → ∀ σ', HasH σ' (h ++ r) → K (.tuple [.ptr none, .int .i64 (askE x.low v n)]) σ' = some ())
    (kold : askE x.low v n = 0 → ∀ e ∈ x.es, e.view = v → e.number = n → ∀ σ', HasH σ' (h ++ r) → K (.tuple [.ptr (some (e.s, 0)), .int .i64 0]) σ' = some ())
    (knew : askE x.low v n = 0 → (∀ e ∈ x.es, ¬ (e.view = v ∧ e.number = n)) → ∀ σ' s h' hs, SlotP s (newX x.g x.f (v.tmod (3 * x.f + 1))) hs →
      WinP b ms mb { x with es := x.es ++ [⟨v, n, s, x.c1⟩], c1 := x.c1 + 1 } h' → HasH σ' (h' ++ (hs ++ r)) → K (.tuple [.ptr (some (s, 0)), .int .i64 0]) σ' = some ()) :
    callK Try.prog N ann (d + 3) dem 17 [.ptr (some (b, 0)), .int .i64 v, .int .i64 n] σ K = some () := by
  have W' := W
  obtain ⟨ho, rfl⟩ := W
  have ho' := ho
  obtain ⟨g0, g4, f0, f3, l0, l1, ok1, ok2⟩ := ho
  rw [go 17 (by decide), f17_eq]
  simp only [go_sem, asked_ok W' H]
  by_cases ha : askE x.low v n = 0
  · have ha' : (askE x.low v n != 0) = false := by simp [ha]
    have v0 : 0 ≤ v := by
      by_cases h : 0 ≤ v
      · exact h
      · exfalso; unfold askE at ha; rw [if_pos (.inl (by omega))] at ha; cases ha
    have v1 : v ≤ 1099511627776 := by
      by_cases h : v ≤ 1099511627776
      · exact h
      · exfalso; unfold askE at ha; rw [if_pos (.inr (by omega))] at ha; cases ha
    have H1 := (H.new (.cells [.int .i64 v, .int .i64 n] true)).put (.cells [.int .i64 v, .int .i64 n] true)
    have H0 := (H.new (.cells [.int .i64 0, .int .i64 0] true)).put (.cells [.int .i64 v, .int .i64 n] true)
    have n0 : (b = σ.next) = False := eq_false (by have := H.l1; omega)
    have n1 : (ms = σ.next) = False := eq_false (by have := H.l2; omega)
    have hg : σ.get b = _ := H.g1
    have hm : σ.get ms = _ := H.g2
    rcases find_en x.es v n with ⟨e, he, e1, e2, i, hf⟩ | ⟨hno, hf⟩
    · simp only [go_sem, ha', hg, hm, n0, n1, hf]
      exact kold ha e he e1 e2 _ H0.tail
    · have w1 : IntKind.i64.wrap (3 * x.f) = 3 * x.f := wrap_small (by omega) (by omega)
      have w2 : IntKind.i64.wrap (3 * x.f + 1) = 3 * x.f + 1 := wrap_small (by omega) (by omega)
      have z : (3 * x.f + 1 = 0) = False := eq_false (by omega)
      have hp0 : 0 ≤ v.tmod (3 * x.f + 1) := Int.tmod_nonneg _ v0
      have hp1 : v.tmod (3 * x.f + 1) < 3 * x.f + 1 := Int.tmod_lt_of_pos _ (by omega)
      simp only [go_sem, ha', hg, hm, n0, n1, hf, w1, w2, z]
      refine snew_ok H0 hN x.g x.f _ ?_ ?_
      · unfold newE; rw [if_neg (by omega)]
      · intro σ' s hs S H2
        have H3 : HasH σ' ((b, Blk.cells [.int .i64 x.g, .int .i64 x.f, .int .i64 x.low, .map (some ms), .map (some mb)] true) :: (ms, .map (x.es.map En.av) x.c1) :: (σ.next, Blk.cells [.int .i64 v, .int .i64 n] true) :: (mb, .map (x.fs.map Bn.av) x.c2) :: (hs ++ r)) := by
          refine H2.perm ?_
          refine (List.perm_append_comm_assoc hs [_, _, _, _] r).trans ?_
          exact (List.Perm.swap _ _ _).trans ((List.Perm.swap _ _ _).cons _)
        have hg' : σ'.get b = _ := H3.g1
        have hm' : σ'.get ms = _ := H3.g2
        have hp' : σ'.get σ.next = _ := H3.g3
        have hset := EK.set_new (k := (v, n)) (es := x.es) (fun e he hk => hno e he (by simpa [EK] using hk)) (.agg [.int .i64 v, .int .i64 n]) (.ptr (some (s, 0))) x.c1
        have hset' : mapSet true [.int .i64, .int .i64] [.int .i64 v, .int .i64 n] (.agg [.int .i64 v, .int .i64 n]) (.ptr (some (s, 0))) (x.es.map En.av) x.c1 = some (x.es.map En.av ++ [(.agg [.int .i64 v, .int .i64 n], .ptr (some (s, 0)), x.c1)], x.c1 + 1) := hset
        simp only [go_sem, hg', hm', hp', keyArg_place, hset']
        refine knew ha hno _ s _ hs S ⟨⟨g0, g4, f0, f3, l0, l1, ?_, ok2⟩, rfl⟩ ?_
        · refine ok1.push rfl fun e he hk => hno e he ?_
          have hk' : (e.view, e.number) = (v, n) := hk
          simpa using hk'
        · have H4 := (H3.put2 (.map (x.es.map En.av ++ [(.agg [.int .i64 v, .int .i64 n], .ptr (some (s, 0)), x.c1)]) (x.c1 + 1))).drop3
          simp only [List.map_append, List.map_cons, List.map_nil]
          exact H4
  · have ha' : (askE x.low v n != 0) = true := by simp [ha]
    simp only [go_sem, ha']
    exact kbad ha _ H

theorem at_nil (v n : Int) (kont : K (.tuple [.ptr none, .int .i64 (if v < 0 ∨ 1099511627776 < v then 1 else 7)]) σ = some ()) :
    callK Try.prog N ann (d + 3) dem 17 [.ptr none, .int .i64 v, .int .i64 n] σ K = some () := by
  rw [go 17 (by decide), f17_eq]
  simp only [go_sem, asked_nil]
  have ha' : ((if v < 0 ∨ 1099511627776 < v then (1 : Int) else 7) != 0) = true := by split <;> rfl
  simp only [go_sem, ha']
  exact kont

end Go.Proofs.Ytmgacgonoodkfaa

namespace Go.Proofs.Ytmgacgonoodkfaa
open Go.AM
set_option maxRecDepth 100000
set_option linter.unusedSimpArgs false
set_option linter.unusedVariables false
variable {N d : Nat} {dem : Bool} {σ : St} {K : AV → St → Option Unit}

theorem clone_nil : callK Try.prog N ann (d + 1) dem 50 [.slice none 0 (some 0) 2] σ K = K (.slice none 0 (some 0) 2) σ := by
  rw [go 50 (by decide), f50_eq]
  simp only [go_sem]

theorem keyArg_num (n : Int) : keyArg (Program.mk Try.progTables Try.funcs) 3 (.int .i64 n) = some (false, [.int .i64], [.int .i64 n]) := by
  have h : keySh (Program.mk Try.progTables Try.funcs) 3 = some (false, [.int .i64]) := by kernel_rfl
  simp [keyArg, h, keyCells, eqCells, eqCell]

/-- A number's best. -/
def bget (fs : List Bn) (n : Int) : Option Bn := fs.find? fun e => decide (e.number = n)
def upB (n v : Int) (text : ByteArray) (g : Int) (e : Bn) : Bn := if e.number = n then ⟨e.number, v, text, g, e.born⟩ else e
def setB (fs : List Bn) (c : Nat) (n v : Int) (text : ByteArray) (g : Int) : List Bn × Nat :=
  if (bget fs n).isSome = true then (fs.map (upB n v text g), c) else (fs ++ [⟨n, v, text, g, c⟩], c + 1)

theorem bget_mem {fs : List Bn} {n : Int} {e : Bn} (h : bget fs n = some e) : e ∈ fs ∧ e.number = n := by
  unfold bget at h
  exact ⟨List.mem_of_find?_eq_some h, by simpa using List.find?_some h⟩
theorem bget_of {fs : List Bn} (hn : (fs.map Bn.number).Nodup) {e : Bn} (he : e ∈ fs) : bget fs e.number = some e := by
  induction fs with
  | nil => simp at he
  | cons a fs ih =>
    simp only [List.map_cons, List.nodup_cons] at hn
    unfold bget
    rw [List.find?_cons]
    rcases List.mem_cons.1 he with rfl | he
    · simp
    · have : a.number ≠ e.number := fun h => hn.1 (by rw [h]; exact List.mem_map_of_mem he)
      simp only [this, decide_false]
      exact ih hn.2 he

theorem find_bn {fs : List Bn} (hn : (fs.map Bn.number).Nodup) (n : Int) : (∃ e, bget fs n = some e ∧ ∃ i, findKey false [.int .i64] [.int .i64 n] (fs.map Bn.av) 0 = some (some (i, .agg [.int .i64 e.view, .str e.text, .int .i64 e.group, .slice none 0 (some 0) 2]))) ∨
    (bget fs n = none ∧ findKey false [.int .i64] [.int .i64 n] (fs.map Bn.av) 0 = some none) := by
  rcases BK.find n fs 0 with ⟨j, e, h1, h2, h3⟩ | ⟨h1, h2⟩
  · left
    have hk : e.number = n := h2
    refine ⟨e, ?_, _, h3⟩
    rw [← hk]; exact bget_of hn (List.mem_of_getElem? h1)
  · right
    refine ⟨?_, h2⟩
    unfold bget
    rw [List.find?_eq_none]
    intro e he
    have h : ¬ e.number = n := h1 e he
    simpa using h

theorem modify_map {n v : Int} {text : ByteArray} {g : Int} : ∀ {fs : List Bn} {j : Nat} {e : Bn}, (fs.map Bn.number).Nodup → fs[j]? = some e → e.number = n →
    (fs.map Bn.av).modify j (fun z => (.int .i64 n, .agg [.int .i64 v, .str text, .int .i64 g, .slice none 0 (some 0) 2], z.2.2)) = (fs.map (upB n v text g)).map Bn.av := by
  intro fs
  induction fs with
  | nil => intro j e _ h; simp at h
  | cons a fs ih =>
    intro j e hn h hk
    simp only [List.map_cons, List.nodup_cons] at hn
    cases j with
    | zero =>
      simp at h
      subst h
      have : fs.map (upB n v text g) = fs := by
        have : ∀ x ∈ fs, upB n v text g x = x := by
          intro x hx
          unfold upB
          rw [if_neg]
          intro hxn
          exact hn.1 (by rw [hk, ← hxn]; exact List.mem_map_of_mem hx)
        calc fs.map (upB n v text g) = fs.map id := List.map_congr_left this
          _ = fs := List.map_id fs
      simp only [List.map_cons, List.modify_zero_cons, this]
      simp [upB, hk, Bn.av]
    | succ j =>
      have h' : fs[j]? = some e := by simpa using h
      have ha : a.number ≠ n := by
        intro hak
        exact hn.1 (by rw [hak, ← hk]; exact List.mem_map_of_mem (List.mem_of_getElem? h'))
      simp only [List.map_cons, List.modify_succ_cons, ih hn.2 h' hk]
      simp [upB, ha]

theorem set_bn {fs : List Bn} {c : Nat} (ok : BK.Ok fs c) (n v : Int) (text : ByteArray) (g : Int) :
    mapSet false [.int .i64] [.int .i64 n] (.int .i64 n) (.agg [.int .i64 v, .str text, .int .i64 g, .slice none 0 (some 0) 2]) (fs.map Bn.av) c = some ((setB fs c n v text g).1.map Bn.av, (setB fs c n v text g).2) ∧
    BK.Ok (setB fs c n v text g).1 (setB fs c n v text g).2 := by
  have hn : (fs.map Bn.number).Nodup := ok.2.2
  cases hb : bget fs n with
  | some e =>
    obtain ⟨he, hk⟩ := bget_mem hb
    obtain ⟨j, e', h1, h2, h3⟩ := BK.set_old he (k := n) hk (.int .i64 n) (.agg [.int .i64 v, .str text, .int .i64 g, .slice none 0 (some 0) 2]) c
    have h3' : mapSet false [.int .i64] [.int .i64 n] (.int .i64 n) (.agg [.int .i64 v, .str text, .int .i64 g, .slice none 0 (some 0) 2]) (fs.map Bn.av) c = _ := h3
    have hs : setB fs c n v text g = (fs.map (upB n v text g), c) := by simp [setB, hb]
    rw [hs, h3']
    refine ⟨congrArg some (Prod.ext (modify_map hn h1 h2) rfl), ?_, ?_, ?_⟩
    · have : (fs.map (upB n v text g)).map BK.born = fs.map BK.born := by
        rw [List.map_map]
        refine List.map_congr_left fun x _ => ?_
        simp only [Function.comp, MK.born, BK, Bn.av, upB]; split <;> rfl
      rw [this]; exact ok.1
    · intro x hx
      obtain ⟨y, hy, rfl⟩ := List.mem_map.1 hx
      have := ok.2.1 y hy
      simp only [MK.born, BK, Bn.av, upB] at this ⊢
      split <;> exact this
    · have : (fs.map (upB n v text g)).map BK.key = fs.map BK.key := by
        rw [List.map_map]
        refine List.map_congr_left fun x _ => ?_
        simp only [Function.comp, BK, upB]; split <;> rfl
      rw [this]; exact ok.2.2
  | none =>
    have hno : ∀ e ∈ fs, BK.key e ≠ n := by
      intro e he
      have : bget fs n = none := hb
      unfold bget at this
      rw [List.find?_eq_none] at this
      have h : ¬ e.number = n := by simpa using this e he
      exact h
    have h3 := BK.set_new hno (.int .i64 n) (.agg [.int .i64 v, .str text, .int .i64 g, .slice none 0 (some 0) 2]) c
    have h3' : mapSet false [.int .i64] [.int .i64 n] (.int .i64 n) (.agg [.int .i64 v, .str text, .int .i64 g, .slice none 0 (some 0) 2]) (fs.map Bn.av) c = _ := h3
    have hs : setB fs c n v text g = (fs ++ [⟨n, v, text, g, c⟩], c + 1) := by simp [setB, hb]
    rw [hs, h3']
    exact ⟨by simp only [List.map_append, List.map_cons, List.map_nil]; rfl, ok.push rfl hno⟩

def noteB (x : Wn) (v n : Int) : Bool := decide (askE x.low v n = 0) && (match bget x.fs n with | some e => decide (e.view < v) | none => true)
def noteX (x : Wn) (v n : Int) (text : ByteArray) (g : Int) : Wn := if noteB x v n = true then { x with fs := (setB x.fs x.c2 n v text g).1, c2 := (setB x.fs x.c2 n v text g).2 } else x

theorem note_ok {b ms mb : Nat} {x : Wn} {h r : Hp} (W : WinP b ms mb x h) (H : HasH σ (h ++ r)) (v n : Int) (text : ByteArray) (g : Int)
    (kont : ∀ σ' h', WinP b ms mb (noteX x v n text g) h' → HasH σ' (h' ++ r) → K (.tuple [.bool (noteB x v n), .int .i64 (askE x.low v n)]) σ' = some ()) :
    callK Try.prog N ann (d + 3) dem 33 [.ptr (some (b, 0)), .int .i64 v, .int .i64 n, .agg [.str text, .int .i64 g, .slice none 0 (some 0) 2]] σ K = some () := by
  obtain ⟨ho, rfl⟩ := W
  have ho' := ho
  obtain ⟨g0, g4, f0, f3, l0, l1, ok1, ok2⟩ := ho
  have H1 : HasH (σ.new (.cells [.str text, .int .i64 g, .slice none 0 (some 0) 2] true)) ([(b, Blk.cells [.int .i64 x.g, .int .i64 x.f, .int .i64 x.low, .map (some ms), .map (some mb)] true), (ms, .map (x.es.map En.av) x.c1), (mb, .map (x.fs.map Bn.av) x.c2)] ++ (σ.next, Blk.cells [.str text, .int .i64 g, .slice none 0 (some 0) 2] true) :: r) := (H.new _).down
  have W1 : WinP b ms mb x [(b, Blk.cells [.int .i64 x.g, .int .i64 x.f, .int .i64 x.low, .map (some ms), .map (some mb)] true), (ms, .map (x.es.map En.av) x.c1), (mb, .map (x.fs.map Bn.av) x.c2)] := ⟨ho', rfl⟩
  rw [go 33 (by decide), f33_eq]
  simp only [go_sem, asked_ok W1 H1]
  by_cases ha : askE x.low v n = 0
  · have ha' : (askE x.low v n != 0) = false := by simp [ha]
    have n0 : (b = σ.next) = False := eq_false (by have := H.l1; omega)
    have n1 : (ms = σ.next) = False := eq_false (by have := H.l2; omega)
    have n2 : (mb = σ.next) = False := eq_false (by have := H.l3; omega)
    have n3 : (b = σ.next + 1) = False := eq_false (by have := H.l1; omega)
    have n4 : (ms = σ.next + 1) = False := eq_false (by have := H.l2; omega)
    have n5 : (mb = σ.next + 1) = False := eq_false (by have := H.l3; omega)
    have n6 : (σ.next = σ.next + 1) = False := eq_false (by omega)
    have hg : σ.get b = _ := H.g1
    have hm : σ.get mb = _ := H.g3
    obtain ⟨hset, hok⟩ := set_bn ok2 n v text g
    rcases find_bn ok2.2.2 n with ⟨e, he, i, hf⟩ | ⟨he, hf⟩
    · simp only [go_sem, ha', hg, hm, n0, n2, n3, n5, n6, hf]
      by_cases hv : v ≤ e.view
      · have hb : noteB x v n = false := by simp [noteB, ha, he, hv]
        have hx : noteX x v n text g = x := by simp [noteX, hb]
        rw [hb, hx, ha] at kont
        simp only [go_sem, hv]
        exact kont _ _ W1 (((H1.new _).put _).tail.up.tail)
      · have hb : noteB x v n = true := by simp [noteB, ha, he]; omega
        have hx : noteX x v n text g = { x with fs := (setB x.fs x.c2 n v text g).1, c2 := (setB x.fs x.c2 n v text g).2 } := by simp [noteX, hb]
        rw [hb, hx, ha] at kont
        simp only [go_sem, hv, n0, n2, n3, n5, n6, hg, hm, clone_nil, keyArg_num, hset]
        refine kont _ _ ⟨⟨g0, g4, f0, f3, l0, l1, ok1, hok⟩, rfl⟩ ?_
        have H2 := ((H1.new (.cells [.int .i64 0, .str (ByteArray.mk #[]), .int .i64 0, .slice none 0 (some 0) 2] true)).put (.cells [.int .i64 e.view, .str e.text, .int .i64 e.group, .slice none 0 (some 0) 2] true)).tail.up.put (.cells [.str text, .int .i64 g, .slice none 0 (some 0) 2] true)
        exact (H2.tail.put3 _)
    · have hb : noteB x v n = true := by simp [noteB, ha, he]
      have hx : noteX x v n text g = { x with fs := (setB x.fs x.c2 n v text g).1, c2 := (setB x.fs x.c2 n v text g).2 } := by simp [noteX, hb]
      rw [hb, hx, ha] at kont
      simp only [go_sem, ha', hg, hm, n0, n2, n3, n5, n6, hf, clone_nil, keyArg_num, hset]
      refine kont _ _ ⟨⟨g0, g4, f0, f3, l0, l1, ok1, hok⟩, rfl⟩ ?_
      have H2 := ((H1.new (.cells [.int .i64 0, .str (ByteArray.mk #[]), .int .i64 0, .slice none 0 (some 0) 2] true)).put (.cells [.int .i64 0, .str (ByteArray.mk #[]), .int .i64 0, .slice none 0 (some 0) 2] true)).tail.up.put (.cells [.str text, .int .i64 g, .slice none 0 (some 0) 2] true)
      exact (H2.tail.put3 _)
  · have ha' : (askE x.low v n != 0) = true := by simp [ha]
    have hb : noteB x v n = false := by simp [noteB, ha]
    have hx : noteX x v n text g = x := by simp [noteX, hb]
    rw [hb, hx] at kont
    simp only [go_sem, ha']
    exact kont _ _ W1 H1.up.tail

theorem note_nil {r : Hp} (H : HasH σ r) (v n : Int) (text : ByteArray) (g : Int) (kont : ∀ σ', HasH σ' r → K (.tuple [.bool false, .int .i64 (if v < 0 ∨ 1099511627776 < v then 1 else 7)]) σ' = some ()) :
    callK Try.prog N ann (d + 3) dem 33 [.ptr none, .int .i64 v, .int .i64 n, .agg [.str text, .int .i64 g, .slice none 0 (some 0) 2]] σ K = some () := by
  rw [go 33 (by decide), f33_eq]
  simp only [go_sem, asked_nil]
  have ha' : ((if v < 0 ∨ 1099511627776 < v then (1 : Int) else 7) != 0) = true := by split <;> rfl
  simp only [go_sem, ha']
  exact kont _ (H.new' _)

def bestV (fs : List Bn) (n : Int) : Int := match bget fs n with | some e => e.view | none => 0
def bestT (fs : List Bn) (n : Int) : ByteArray := match bget fs n with | some e => e.text | none => ByteArray.mk #[]
def bestG (fs : List Bn) (n : Int) : Int := match bget fs n with | some e => e.group | none => 0

theorem best_ok {b ms mb : Nat} {x : Wn} {h r : Hp} (W : WinP b ms mb x h) (H : HasH σ (h ++ r)) (n : Int)
    (kont : ∀ σ', HasH σ' (h ++ r) → K (.tuple [.int .i64 (bestV x.fs n), .agg [.str (bestT x.fs n), .int .i64 (bestG x.fs n), .slice none 0 (some 0) 2], .bool (bget x.fs n).isSome]) σ' = some ()) :
    callK Try.prog N ann (d + 2) dem 34 [.ptr (some (b, 0)), .int .i64 n] σ K = some () := by
  obtain ⟨ho, rfl⟩ := W
  obtain ⟨g0, g4, f0, f3, l0, l1, ok1, ok2⟩ := ho
  have n0 : (b = σ.next) = False := eq_false (by have := H.l1; omega)
  have n2 : (mb = σ.next) = False := eq_false (by have := H.l3; omega)
  have n3 : (b = σ.next + 1) = False := eq_false (by have := H.l1; omega)
  have n5 : (mb = σ.next + 1) = False := eq_false (by have := H.l3; omega)
  have n6 : (σ.next = σ.next + 1) = False := eq_false (by omega)
  have n7 : (σ.next + 1 = σ.next) = False := eq_false (by omega)
  have hg : σ.get b = _ := H.g1
  have hm : σ.get mb = _ := H.g3
  rw [go 34 (by decide), f34_eq]
  rcases find_bn ok2.2.2 n with ⟨e, he, i, hf⟩ | ⟨he, hf⟩
  · simp only [bestV, bestT, bestG, he, Option.isSome_some] at kont
    simp only [go_sem, hg, hm, n0, n2, n3, n5, n6, n7, hf, clone_nil]
    exact kont _ (((((H.new _).new _).put _).put _).put2 _).tail.tail
  · simp only [bestV, bestT, bestG, he, Option.isSome_none] at kont
    simp only [go_sem, hg, hm, n0, n2, n3, n5, n6, n7, hf, clone_nil]
    exact kont _ (((((H.new _).new _).put _).put _).put2 _).tail.tail

theorem best_nil {r : Hp} (H : HasH σ r) (n : Int) (kont : ∀ σ', HasH σ' r → K (.tuple [.int .i64 0, .agg [.str (ByteArray.mk #[]), .int .i64 0, .slice none 0 (some 0) 2], .bool false]) σ' = some ()) :
    callK Try.prog N ann (d + 2) dem 34 [.ptr none, .int .i64 n] σ K = some () := by
  rw [go 34 (by decide), f34_eq]
  simp only [go_sem]
  exact kont _ ((H.new _).put _).tail

end Go.Proofs.Ytmgacgonoodkfaa
