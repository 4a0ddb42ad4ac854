/- What a call is handed: slices of plain values are opened as rows that are only read. -/
import Derived.Test.YtnjhcfcnpapaiaaGreatDoorA29
import Derived.Test.YtnjhcfcnpapaiaaGreatDoorA26
set_option linter.unusedVariables false
set_option linter.unusedSimpArgs false
namespace Go.AM
open Go.ChangeShapes Go.WideShapes Go.ChangeAt Go.RowKit

/-- A slice that is handed over: of n elements of z cells each. -/
def Arg (z : Nat) (v : AV) (n : Nat) (xs : List AV) (h : Hp) : Prop :=
  xs.length = n * z ∧ ((∃ o c, v = .slice o 0 c z ∧ n = 0 ∧ h = []) ∨ ∃ b c, v = .slice (some (b, 0)) n c z ∧ h = [(b, .cells xs false)])

theorem Arg.sl {z : Nat} {v : AV} {n : Nat} {xs : List AV} {h : Hp} (hv : Arg z v n xs h) : ∃ o c, v = .slice o n c z := by
  rcases hv.2 with ⟨o, c, rfl, rfl, rfl⟩ | ⟨b, c, rfl, rfl⟩
  · exact ⟨_, _, rfl⟩
  · exact ⟨_, _, rfl⟩
theorem Arg.row {z : Nat} {o : Option (Nat × Nat)} {n m : Nat} {c : Option Nat} {xs : List AV} {h : Hp} (hv : Arg z (.slice o m c z) n xs h) (hn : n ≠ 0) :
    ∃ b, o = some (b, 0) ∧ h = [(b, .cells xs false)] := by
  rcases hv.2 with ⟨_, _, _, rfl, _⟩ | ⟨b, c', e, rfl⟩
  · exact absurd rfl hn
  · injection e with e1 e2 e3 e4
    exact ⟨b, e1, rfl⟩

section
variable {B : Nat} {σ : St} {m : Mp} {w : World}

theorem grows_upd (hf : Fr m σ.next) (L : Loc) : Grows m w (upd m σ.next L) w :=
  ⟨fun i L' h => by unfold upd; split; · rename_i e; subst e; rw [hf _ (Nat.le_refl _)] at h; cases h
                    · exact h, fun _ => Nat.le_refl _⟩
theorem fr_upd (hf : Fr m σ.next) (L : Loc) (x : Blk) : Fr (upd m σ.next L) (σ.new x).next := by
  intro i hi
  simp only [St.next_new] at hi
  unfold upd
  rw [if_neg (by omega)]; exact hf i (by omega)

/-- A row that is only read. -/
theorem sim_ro (hs : Sim B σ m w) (hf : Fr m σ.next) {cs : List AV} {L : Loc} {ccs : Array Value} {el : TypeId} {fr : Nat × Nat} (hL : L.size = cs.length) (hh : w.heap[L.blk]? = some (.cells ccs el fr))
    (hb : L.base + cs.length ≤ ccs.size) (hr : RepL m w cs ((ccs.toList.drop L.base).take cs.length)) (ho : cs.all AV.one = true) (hlt : L.blk < B) :
    Sim B (σ.new (.cells cs false)) (upd m σ.next L) w := by
  have g := grows_upd (w := w) hf L
  refine ⟨?_, ?_, ?_, hs.le, hs.globs g (Below.refl B w) fun id n cs hid => by
    rw [St.get_new] at hid; split at hid
    · injection hid with hid; cases hid
    · exact hid⟩
  · intro id cs' own h
    rw [St.get_new] at h
    split at h
    · rename_i e; subst e
      injection h with h; injection h with h1 h2; subst h1 h2
      refine ⟨L, ccs, el, fr, by simp [upd], hL, hh, hb, hr.mono g, ho, (fun h => by cases h), fun _ => hlt⟩
    · obtain ⟨L', ccs', el', fr', p1, p2, p3, p4, p5, p6, p7, p8⟩ := hs.row id cs' own h
      exact ⟨L', ccs', el', fr', g.map _ _ p1, p2, p3, p4, p5.mono g, p6, p7, p8⟩
  · intro id x h hx
    rw [St.get_new] at h
    split at h
    · injection h with h; subst h; simp [Blk.isObj] at hx
    · obtain ⟨L', o, p1, p2, p3, p4⟩ := hs.obj id x h hx
      exact ⟨L', o, g.map _ _ p1, p2, p3, p4.mono g⟩
  · intro i j x y M M' h1 h2 o1 o2 m1 m2 e
    rw [St.get_new] at h1 h2
    split at h1
    · injection h1 with h1; subst h1; simp [Blk.own] at o1
    · split at h2
      · injection h2 with h2; subst h2; simp [Blk.own] at o2
      · rename_i n1 n2
        unfold upd at m1 m2
        rw [if_neg n1] at m1; rw [if_neg n2] at m2
        exact hs.sep i j x y M M' h1 h2 o1 o2 m1 m2 e

theorem sim_dead (hs : Sim B σ m w) (hf : Fr m σ.next) (L : Loc) : Sim B (σ.new .dead) (upd m σ.next L) w := by
  have g := grows_upd (w := w) hf L
  refine ⟨?_, ?_, ?_, hs.le, hs.globs g (Below.refl B w) fun id n cs hid => by
    rw [St.get_new] at hid; split at hid
    · injection hid with hid; cases hid
    · exact hid⟩
  · intro id cs' own h
    rw [St.get_new] at h
    split at h
    · injection h with h; cases h
    · obtain ⟨L', ccs', el', fr', p1, p2, p3, p4, p5, p6, p7, p8⟩ := hs.row id cs' own h
      exact ⟨L', ccs', el', fr', g.map _ _ p1, p2, p3, p4, p5.mono g, p6, p7, p8⟩
  · intro id x h hx
    rw [St.get_new] at h
    split at h
    · injection h with h; subst h; simp [Blk.isObj] at hx
    · obtain ⟨L', o, p1, p2, p3, p4⟩ := hs.obj id x h hx
      exact ⟨L', o, g.map _ _ p1, p2, p3, p4.mono g⟩
  · intro i j x y M M' h1 h2 o1 o2 m1 m2 e
    rw [St.get_new] at h1 h2
    split at h1
    · injection h1 with h1; subst h1; simp [Blk.own] at o1
    · split at h2
      · injection h2 with h2; subst h2; simp [Blk.own] at o2
      · rename_i n1 n2
        unfold upd at m1 m2
        rw [if_neg n1] at m1; rw [if_neg n2] at m2
        exact hs.sep i j x y M M' h1 h2 o1 o2 m1 m2 e
end

/-- Plain values: they stand for themselves, wherever. -/
def Plain (ys : List AV) (cs : List Value) : Prop := (∀ m w, RepL m w ys cs) ∧ ys.all AV.one = true

section
variable {H : Type} {enc : TypeId × Value → H} {P : Program} {w : World}

theorem addr_add_add (a : Addr) (i j : Nat) : (a.add i).add j = a.add (i + j) := by
  unfold Addr.add
  by_cases hi : i = 0
  · subst hi; simp
  · by_cases hj : j = 0
    · subst hj; simp
    · simp [hi, hj, show ¬ i + j = 0 by omega, Nat.add_assoc]

/-- A slice of plain elements is opened. -/
theorem open_arg {Q : List AV → Prop} {z : Nat} {t e : TypeId} (ht : P.underlying t = some (.slice e)) (hz : P.cellsOf e = z) (hz0 : 0 < z)
    (dec : ∀ n cs x, DataW.trod enc P w 0 (fun _ => true) true n e cs = some x → ∃ ys, Plain ys cs ∧ ys.length = z ∧ Q ys)
    {v : Value} {d : DataW H} {ps : List MemPlace} (hd : DataW.Trod enc P w 0 (fun _ => true) true t v d ps) (hv : ∃ a len cap, v = .slice a len cap) :
    ∃ xss : List (List AV), (∀ ys ∈ xss, Q ys ∧ ys.length = z) ∧ ∀ (σ : St) (m : Mp) (r : Hp), Sim w.heap.size σ m w → Fr m σ.next → HasH σ r →
      ∃ av σ' m' h, Arg z av xss.length xss.flatten h ∧ Sim w.heap.size σ' m' w ∧ Fr m' σ'.next ∧ Grows m w m' w ∧ RepV m' w av v ∧ HasH σ' (h ++ r) := by
  obtain ⟨a0, len0, cap0, rfl⟩ := hv
  obtain ⟨fuel, hf⟩ := hd
  rcases DataW.trod_slice ht hf with ⟨hcs, -⟩ | ⟨a, len, cap, elems, rest, n, -, hcs, -, -, hlc, -, hlen, hel, hsp, -⟩
  · simp [Value.cells] at hcs
    obtain ⟨rfl, rfl, rfl⟩ := hcs
    exact ⟨[], by simp, fun σ m r hs hf hr => ⟨.slice none 0 (some 0) z, σ, m, [], ⟨by simp, .inl ⟨_, _, rfl, rfl, rfl⟩⟩, hs, hf, Grows.refl _ _, .snil z, hr⟩⟩
  · simp [Value.cells] at hcs
    obtain ⟨rfl, rfl, rfl⟩ := hcs
    obtain ⟨hrl, hre⟩ := hsp rfl
    rw [hz] at hel hre
    -- each element's cells
    have each : ∀ i, i < cap0 → ∃ cs, w.cells? 0 (a.add (i * z)) z = some cs ∧ ∃ n x, DataW.trod enc P w 0 (fun _ => true) true n e cs = some x := by
      intro i hi
      by_cases h : i < len0
      · have := hel i h
        obtain ⟨x, hx⟩ : ∃ x, elems[i]? = some x := ⟨_, List.getElem?_eq_getElem (by omega)⟩
        rw [hx, Option.bind_eq_some_iff] at this
        obtain ⟨cs, h1, h2⟩ := this
        exact ⟨cs, h1, n, x, h2⟩
      · have := hre (i - len0) (by omega)
        rw [show len0 + (i - len0) = i by omega] at this
        obtain ⟨x, hx⟩ : ∃ x, rest[i - len0]? = some x := ⟨_, List.getElem?_eq_getElem (by omega)⟩
        rw [hx, Option.bind_eq_some_iff] at this
        obtain ⟨cs, h1, h2⟩ := this
        exact ⟨cs, h1, n, x, h2⟩
    -- the elements' values
    have els : ∀ k, k ≤ len0 → ∃ xss : List (List AV), xss.length = k ∧ (∀ ys ∈ xss, Q ys ∧ ys.length = z ∧ ys.all AV.one = true) ∧
        ∀ i ys, xss[i]? = some ys → ∃ cs, w.cells? 0 (a.add (i * z)) z = some cs ∧ Plain ys cs := by
      intro k
      induction k with
      | zero => intro _; exact ⟨[], rfl, by simp, by simp⟩
      | succ k ih =>
        intro hk
        obtain ⟨xss, h1, h2, h3⟩ := ih (by omega)
        obtain ⟨cs, q1, n', x, q2⟩ := each k (by omega)
        obtain ⟨ys, q3, q4, q5⟩ := dec n' cs x q2
        refine ⟨xss ++ [ys], by simp [h1], ?_, ?_⟩
        · intro ys' hy
          rcases List.mem_append.1 hy with h | h
          · exact h2 _ h
          · simp at h; subst h; exact ⟨q5, q4, q3.2⟩
        · intro i ys' hi
          by_cases hik : i < k
          · rw [List.getElem?_append_left (by omega)] at hi; exact h3 i ys' hi
          · have : i = k := by
              obtain ⟨h, _⟩ := List.getElem?_eq_some_iff.1 hi
              simp at h; omega
            subst this
            rw [List.getElem?_append_right (by omega)] at hi
            simp [h1] at hi; subst hi
            exact ⟨cs, q1, q3⟩
    obtain ⟨xss, h1, h2, h3⟩ := els len0 (Nat.le_refl _)
    refine ⟨xss, fun ys hy => ⟨(h2 ys hy).1, (h2 ys hy).2.1⟩, ?_⟩
    intro σ m r hs hfr hr
    have hfl : ∀ l : List (List AV), (∀ ys ∈ l, ys.length = z) → l.flatten.length = l.length * z := by
      intro l hl
      induction l with
      | nil => simp
      | cons y l ih => simp only [List.flatten_cons, List.length_append, List.length_cons, hl y (by simp), ih (fun ys h => hl ys (by simp [h])), Nat.add_mul]; omega
    have hxl : xss.flatten.length = len0 * z := by rw [hfl xss (fun ys h => (h2 ys h).2.1), h1]
    by_cases hc0 : cap0 = 0
    · subst hc0
      obtain rfl : len0 = 0 := by omega
      obtain rfl : xss = [] := List.length_eq_zero_iff.1 h1
      refine ⟨.slice (some (σ.next, 0)) 0 none z, σ.new .dead, upd m σ.next ⟨0, 0, 0⟩, [], ⟨by simp, .inl ⟨_, _, rfl, rfl, rfl⟩⟩, sim_dead hs hfr _, fr_upd hfr _ _, grows_upd hfr _,
        .slice _ _ _ _ _ ⟨0, 0, 0⟩ 0 a (by simp [upd]) (Nat.le_refl _) (by simp) ⟨.inr ⟨rfl, rfl⟩, fun _ => by simp⟩, hr.new' _⟩
    · -- there is a first cell
      have cell : ∀ j, j < cap0 * z → ∃ u, w.cell? (a.add j) = some u := by
        intro j hj
        obtain ⟨cs, q1, _⟩ := each (j / z) (Nat.div_lt_of_lt_mul (by rw [Nat.mul_comm]; exact hj))
        obtain ⟨-, q2, q3⟩ := World.cells?_some q1
        have hm := Nat.mod_lt j hz0
        have := q3 (j % z) hm
        have hdm := Nat.div_add_mod j z
        refine ⟨cs[j % z]'(by omega), ?_⟩
        rw [List.getElem?_eq_getElem (by omega), addr_add_add, show j / z * z + j % z = j by rw [Nat.mul_comm]; exact hdm] at this
        exact this
      obtain ⟨u0, hu0⟩ := cell 0 (Nat.mul_pos (by omega) hz0)
      simp only [Addr.add, if_true] at hu0
      unfold World.cell? at hu0
      split at hu0
      · rename_i ccs el fr hheap
        have hspot : a.spot = none := by cases hsp : a.spot <;> simp_all
        obtain ⟨blk, off, spot⟩ := a
        simp only at hspot hheap hu0
        subst hspot
        have cget : ∀ j, j < cap0 * z → ∃ u, ccs[off + j]? = some u := by
          intro j hj
          obtain ⟨u, hu⟩ := cell j hj
          by_cases hj0 : j = 0
          · subst hj0; simp [Addr.add, World.cell?, hheap] at hu; exact ⟨u, by simpa using hu⟩
          · simp [Addr.add, hj0, World.cell?, hheap] at hu; exact ⟨u, hu⟩
        have hsz : off + cap0 * z ≤ ccs.size := by
          obtain ⟨u, hu⟩ := cget (cap0 * z - 1) (by have := Nat.mul_pos (Nat.pos_of_ne_zero hc0) hz0; omega)
          obtain ⟨h, _⟩ := Array.getElem?_eq_some_iff.1 hu
          omega
        have hlz : len0 * z ≤ cap0 * z := Nat.mul_le_mul_right z hlc
        -- the cells behind the elements
        have rep : ∀ k, k ≤ len0 → RepL m w (xss.take k).flatten ((ccs.toList.drop off).take (k * z)) := by
          intro k
          induction k with
          | zero => intro _; simp; exact .nil
          | succ k ih =>
            intro hk
            obtain ⟨ys, hy⟩ : ∃ ys, xss[k]? = some ys := ⟨_, List.getElem?_eq_getElem (by omega)⟩
            obtain ⟨cs, q1, q2⟩ := h3 k ys hy
            obtain ⟨-, q3, q4⟩ := World.cells?_some q1
            have ecs : cs = ((ccs.toList.drop off).drop (k * z)).take z := by
              apply List.ext_getElem?
              intro i
              by_cases hi : i < z
              · rw [List.getElem?_take, if_pos hi, List.getElem?_drop, List.getElem?_drop, ← q4 i hi, Array.getElem?_toList]
                have : off + (k * z + i) = off + k * z + i := by omega
                unfold Addr.add World.cell?
                by_cases hk0 : k * z = 0
                · by_cases hi0 : i = 0
                  · subst hi0; simp [hk0, hheap]
                  · simp [hk0, hi0, hheap]
                · by_cases hi0 : i = 0
                  · subst hi0; simp [hk0, hheap]
                  · simp [hk0, hi0, hheap, this]
              · rw [List.getElem?_eq_none (by omega), List.getElem?_eq_none (by simp; omega)]
            have e1 : (xss.take (k + 1)).flatten = (xss.take k).flatten ++ ys := by
              rw [List.take_add_one, hy]; simp
            have e2 : (ccs.toList.drop off).take ((k + 1) * z) = (ccs.toList.drop off).take (k * z) ++ cs := by
              rw [ecs, Nat.add_mul, Nat.one_mul, List.take_add]
            rw [e1, e2]
            exact (ih (by omega)).append (q2.1 m w)
        have hrep := rep len0 (Nat.le_refl _)
        rw [List.take_of_length_le (by omega), ← hxl] at hrep
        have hone : xss.flatten.all AV.one = true := by
          rw [List.all_eq_true]
          intro y hy
          obtain ⟨ys, h4, h5⟩ := List.mem_flatten.1 hy
          exact List.all_eq_true.1 (h2 ys h4).2.2 y h5
        have hblt : blk < w.heap.size := (Array.getElem?_eq_some_iff.1 hheap).1
        refine ⟨.slice (some (σ.next, 0)) xss.length none z, σ.new (.cells xss.flatten false), upd m σ.next ⟨blk, off, xss.flatten.length⟩, [(σ.next, .cells xss.flatten false)],
          ⟨by rw [hxl, h1], .inr ⟨_, _, rfl, rfl⟩⟩, sim_ro hs hfr rfl hheap (by show off + xss.flatten.length ≤ ccs.size; omega) hrep hone hblt, fr_upd hfr _ _, grows_upd hfr _, ?_, hr.new _⟩
        rw [h1]
        refine .slice _ _ _ _ _ ⟨blk, off, xss.flatten.length⟩ cap0 _ (by simp [upd]) hlc (by simp) ⟨.inl ⟨rfl, ?_⟩, fun _ => (by show xss.flatten.length ≤ 0 + cap0 * z; omega)⟩
        intro _; simp only [blkSize, hheap]; show off + 0 + cap0 * z ≤ ccs.size; omega
      · cases hu0

end
theorem exists_map {α β : Type} {f : α → β} : ∀ {l : List β}, (∀ y ∈ l, ∃ a, y = f a) → ∃ bs : List α, l = bs.map f
  | [], _ => ⟨[], rfl⟩
  | y :: l, h => by
    obtain ⟨a, ha⟩ := h y (by simp)
    obtain ⟨as, has⟩ := exists_map (l := l) (fun y hy => h y (by simp [hy]))
    exact ⟨a :: as, by rw [ha, has]; rfl⟩
theorem flatten_single {α β : Type} (f : α → β) (l : List α) : (l.map fun a => [f a]).flatten = l.map f := by
  induction l with
  | nil => rfl
  | cons a l ih => simp [ih]

section
variable {H : Type} {enc : TypeId × Value → H} {P : Program} {w : World}
theorem plain_str (s : ByteArray) : Plain [.str s] [.string s] := ⟨fun _ _ => .cons _ _ _ _ (.str s) .nil, rfl⟩
theorem plain_int (k : IntKind) (n : Int) : Plain [.int k n] [.int k n] := ⟨fun _ _ => .cons _ _ _ _ (.int k n) .nil, rfl⟩
theorem plain_bool (b : Bool) : Plain [.bool b] [.bool b] := ⟨fun _ _ => .cons _ _ _ _ (.bool b) .nil, rfl⟩
theorem Plain.append {a b : List AV} {x y : List Value} (h : Plain a x) (g : Plain b y) : Plain (a ++ b) (x ++ y) :=
  ⟨fun m w => (h.1 m w).append (g.1 m w), by rw [List.all_append, h.2, g.2]; rfl⟩

/-- A slice of strings. -/
theorem open_strs {t e : TypeId} (ht : P.underlying t = some (.slice e)) (he : P.underlying e = some .string) (hz : P.cellsOf e = 1) {v : Value} {d : DataW H} {ps : List MemPlace}
    (hd : DataW.Trod enc P w 0 (fun _ => true) true t v d ps) (hv : ∃ a len cap, v = .slice a len cap) :
    ∃ ss : List ByteArray, ∀ (σ : St) (m : Mp) (r : Hp), Sim w.heap.size σ m w → Fr m σ.next → HasH σ r →
      ∃ av σ' m' h, Arg 1 av ss.length (ss.map AV.str) h ∧ Sim w.heap.size σ' m' w ∧ Fr m' σ'.next ∧ Grows m w m' w ∧ RepV m' w av v ∧ HasH σ' (h ++ r) := by
  obtain ⟨xss, hq, hx⟩ := open_arg (Q := fun ys => ∃ s, ys = [AV.str s]) (z := 1) ht hz (by decide) (fun n cs x h => by
    obtain ⟨s, rfl, _⟩ := DataW.trod_string he h
    exact ⟨[.str s], plain_str s, rfl, s, rfl⟩) hd hv
  obtain ⟨ss, rfl⟩ := exists_map (f := fun s => [AV.str s]) (fun y hy => (hq y hy).1)
  refine ⟨ss, ?_⟩
  rw [flatten_single, List.length_map] at hx
  exact hx

/-- A slice of integers. -/
theorem open_intz {t e : TypeId} {k : IntKind} (ht : P.underlying t = some (.slice e)) (he : P.underlying e = some (.int k)) (hz : P.cellsOf e = 1) {v : Value} {d : DataW H} {ps : List MemPlace}
    (hd : DataW.Trod enc P w 0 (fun _ => true) true t v d ps) (hv : ∃ a len cap, v = .slice a len cap) :
    ∃ zs : List Int, ∀ (σ : St) (m : Mp) (r : Hp), Sim w.heap.size σ m w → Fr m σ.next → HasH σ r →
      ∃ av σ' m' h, Arg 1 av zs.length (zs.map (AV.int k)) h ∧ Sim w.heap.size σ' m' w ∧ Fr m' σ'.next ∧ Grows m w m' w ∧ RepV m' w av v ∧ HasH σ' (h ++ r) := by
  obtain ⟨xss, hq, hx⟩ := open_arg (Q := fun ys => ∃ n, ys = [AV.int k n]) (z := 1) ht hz (by decide) (fun n cs x h => by
    obtain ⟨s, rfl, _⟩ := DataW.trod_int he h
    exact ⟨[.int k s], plain_int k s, rfl, s, rfl⟩) hd hv
  obtain ⟨ss, rfl⟩ := exists_map (f := fun s => [AV.int k s]) (fun y hy => (hq y hy).1)
  refine ⟨ss, ?_⟩
  rw [flatten_single, List.length_map] at hx
  exact hx
end
/-- Parts of equal length, one behind the other. -/
theorem flatMap_len {α : Type} {f : α → List AV} {z : Nat} (hz : ∀ a, (f a).length = z) (l : List α) : (l.flatMap f).length = l.length * z := by
  induction l with
  | nil => simp
  | cons a l ih => simp only [List.flatMap_cons, List.length_append, List.length_cons, hz, ih, Nat.add_mul]; omega
theorem flatMap_get {α : Type} {f : α → List AV} {z : Nat} (hz : ∀ a, (f a).length = z) {l : List α} {i j : Nat} {a : α} (hj : j < z) (h : l[i]? = some a) (junk : List AV) : (l.flatMap f ++ junk)[i * z + j]? = (f a)[j]? := by
  have hi : i < l.length := by obtain ⟨h, _⟩ := List.getElem?_eq_some_iff.1 h; exact h
  have hl := flatMap_len hz l
  have hm : i * z + z ≤ l.length * z := by rw [← Nat.succ_mul]; exact Nat.mul_le_mul_right z hi
  rw [List.getElem?_append_left (by omega)]
  clear hl hm hi
  induction l generalizing i with
  | nil => simp at h
  | cons b l ih =>
    cases i with
    | zero =>
      simp at h; subst h
      simp only [List.flatMap_cons, Nat.zero_mul, Nat.zero_add]
      rw [List.getElem?_append_left (by rw [hz]; exact hj)]
    | succ i =>
      simp only [List.flatMap_cons]
      rw [List.getElem?_append_right (by rw [hz, Nat.succ_mul]; omega), hz, show (i + 1) * z + j - z = i * z + j by rw [Nat.succ_mul]; omega]
      exact ih (by simpa using h)
end Go.AM
