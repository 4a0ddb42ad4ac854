/- The abstract machine against the model: what abstract values and heaps stand for; the heap's laws. -/
import Derived.Test.YtnjhcfcnpapaiaaGreatDoorA2
import Derived.Below
set_option linter.unusedVariables false
set_option linter.unusedSimpArgs false
namespace Go.AM

theorem Heap.get_set : ∀ (f : Nat) (h : Heap) (k : Nat) (b : Blk) (f' k' : Nat), k ≤ f → k' ≤ f' →
    (Heap.set f h k b).get f' k' = if k' = k then some b else h.get f' k' := by
  intro f
  induction f with
  | zero =>
    intro h k b f' k' hk hk'
    obtain rfl : k = 0 := by omega
    cases h with
    | leaf => cases k' <;> cases f' <;> simp [Heap.set, Heap.get] <;> split <;> simp [Heap.get]
    | node v l r => cases k' <;> cases f' <;> simp [Heap.set, Heap.get]
  | succ f ih =>
    intro h k b f' k' hk hk'
    cases k with
    | zero =>
      cases h with
      | leaf => cases k' <;> cases f' <;> simp [Heap.set, Heap.get] <;> split <;> simp [Heap.get]
      | node v l r => cases k' <;> cases f' <;> simp [Heap.set, Heap.get]
    | succ k =>
      cases k' with
      | zero =>
        cases h with
        | leaf => simp only [Heap.set]; split <;> simp [Heap.get]
        | node v l r => simp only [Heap.set]; split <;> simp [Heap.get]
      | succ k' =>
        cases f' with
        | zero => omega
        | succ f' =>
          have e : (k' + 1 = k + 1) ↔ (k' % 2 = k % 2 ∧ k' / 2 = k / 2) := by omega
          cases h with
          | leaf =>
            simp only [Heap.set]
            by_cases hp : k % 2 = 0
            · rw [if_pos hp]
              simp only [Heap.get]
              by_cases hq : k' % 2 = 0
              · rw [if_pos hq, ih _ _ _ _ _ (by omega) (by omega)]
                by_cases hd : k' / 2 = k / 2
                · rw [if_pos hd, if_pos (e.2 ⟨by omega, hd⟩)]
                · rw [if_neg hd, if_neg (fun x => hd (e.1 x).2)]; simp [Heap.get]
              · rw [if_neg hq, if_neg (fun x => hq ((e.1 x).1.trans hp))]
            · rw [if_neg hp]
              simp only [Heap.get]
              by_cases hq : k' % 2 = 0
              · rw [if_pos hq, if_neg (fun x => hp ((e.1 x).1.symm.trans hq))]
              · rw [if_neg hq, ih _ _ _ _ _ (by omega) (by omega)]
                by_cases hd : k' / 2 = k / 2
                · rw [if_pos hd, if_pos (e.2 ⟨by omega, hd⟩)]
                · rw [if_neg hd, if_neg (fun x => hd (e.1 x).2)]; simp [Heap.get]
          | node v l r =>
            simp only [Heap.set]
            by_cases hp : k % 2 = 0
            · rw [if_pos hp]
              simp only [Heap.get]
              by_cases hq : k' % 2 = 0
              · rw [if_pos hq, if_pos hq, ih _ _ _ _ _ (by omega) (by omega)]
                by_cases hd : k' / 2 = k / 2
                · rw [if_pos hd, if_pos (e.2 ⟨by omega, hd⟩)]
                · rw [if_neg hd, if_neg (fun x => hd (e.1 x).2)]
              · rw [if_neg hq, if_neg hq, if_neg (fun x => hq ((e.1 x).1.trans hp))]
            · rw [if_neg hp]
              simp only [Heap.get]
              by_cases hq : k' % 2 = 0
              · rw [if_pos hq, if_pos hq, if_neg (fun x => hp ((e.1 x).1.symm.trans hq))]
              · rw [if_neg hq, if_neg hq, ih _ _ _ _ _ (by omega) (by omega)]
                by_cases hd : k' / 2 = k / 2
                · rw [if_pos hd, if_pos (e.2 ⟨by omega, hd⟩)]
                · rw [if_neg hd, if_neg (fun x => hd (e.1 x).2)]

@[simp] theorem St.get_put (σ : St) (b : Nat) (x : Blk) (i : Nat) : (σ.put b x).get i = if i = b then some x else σ.get i :=
  Heap.get_set _ _ _ _ _ _ (Nat.le_refl _) (Nat.le_refl _)
@[simp] theorem St.get_new (σ : St) (x : Blk) (i : Nat) : (σ.new x).get i = if i = σ.next then some x else σ.get i :=
  Heap.get_set _ _ _ _ _ _ (Nat.le_refl _) (Nat.le_refl _)
@[simp] theorem St.next_put (σ : St) (b : Nat) (x : Blk) : (σ.put b x).next = σ.next := rfl
@[simp] theorem St.next_new (σ : St) (x : Blk) : (σ.new x).next = σ.next + 1 := rfl

/-- Where a block lies: the model's block, the first cell, how many cells are known. -/
structure Loc where
  blk : Nat
  base : Nat
  size : Nat
abbrev Mp := Nat → Option Loc

def blkSize (w : World) (b : Nat) : Nat := match w.heap[b]? with | some (.cells cs _ _) => cs.size | _ => 0

def SlAt (w : World) (L : Loc) (off len : Nat) (cap : Option Nat) (e c' : Nat) (a : Addr) : Prop :=
  ((a = ⟨L.blk, L.base + off, none⟩ ∧ (cap = none → L.base + off + c' * e ≤ blkSize w L.blk)) ∨ (len = 0 ∧ c' = 0)) ∧ (cap = none → L.size ≤ off + c' * e)

mutual
inductive RepV (m : Mp) (w : World) : AV → Value → Prop
  | undef (v : Value) : RepV m w .undef v
  | bool (b : Bool) : RepV m w (.bool b) (.bool b)
  | int (k : IntKind) (n : Int) : RepV m w (.int k n) (.int k n)
  | str (s : ByteArray) : RepV m w (.str s) (.string s)
  | pnil : RepV m w (.ptr none) (.pointer none)
  | ptr (id off : Nat) (L : Loc) (h : m id = some L) : RepV m w (.ptr (some (id, off))) (.pointer (some ⟨L.blk, L.base + off, none⟩))
  | snil (e : Nat) : RepV m w (.slice none 0 (some 0) e) (.slice none 0 0)
  | slice (id off len : Nat) (cap : Option Nat) (e : Nat) (L : Loc) (c' : Nat) (a : Addr) (h : m id = some L) (hl : len ≤ c') (hc : ∀ c, cap = some c → c' = c)
      (ha : SlAt w L off len cap e c' a) : RepV m w (.slice (some (id, off)) len cap e) (.slice (some a) len c')
  | mnil : RepV m w (.map none) (.map none)
  | map (id : Nat) (L : Loc) (h : m id = some L) : RepV m w (.map (some id)) (.map (some L.blk))
  | func (fn : Fn) (f1 c1 : List AV) (f2 c2 : Array Value) (hf : RepL m w f1 f2.toList) (hc : RepL m w c1 c2.toList) : RepV m w (.func fn f1 c1) (.func fn f2 c2)
  | nilFunc : RepV m w .nilFunc .nilFunc
  | iface (t : TypeId) (v : AV) (u : Value) (h : RepV m w v u) : RepV m w (.iface t v) (.iface t u)
  | nilIface : RepV m w .nilIface .nilIface
  | agg (cs : List AV) (ds : Array Value) (h : RepL m w cs ds.toList) : RepV m w (.agg cs) (.agg ds)
  | tuple (cs : List AV) (ds : Array Value) (h : RepL m w cs ds.toList) : RepV m w (.tuple cs) (.tuple ds)
inductive RepL (m : Mp) (w : World) : List AV → List Value → Prop
  | nil : RepL m w [] []
  | cons (a : AV) (v : Value) (x : List AV) (y : List Value) (h : RepV m w a v) (t : RepL m w x y) : RepL m w (a :: x) (v :: y)
end

/-- More is known of more blocks; no block has shrunk. -/
structure Grows (m : Mp) (w : World) (m' : Mp) (w' : World) : Prop where
  map : ∀ i L, m i = some L → m' i = some L
  size : ∀ b, blkSize w b ≤ blkSize w' b

theorem Grows.refl (m : Mp) (w : World) : Grows m w m w := ⟨fun _ _ h => h, fun _ => Nat.le_refl _⟩
theorem Grows.trans {m m1 m2 : Mp} {w w1 w2 : World} (h : Grows m w m1 w1) (k : Grows m1 w1 m2 w2) : Grows m w m2 w2 :=
  ⟨fun i L x => k.map i L (h.map i L x), fun b => Nat.le_trans (h.size b) (k.size b)⟩

theorem SlAt.mono {w w' : World} {L : Loc} {off len : Nat} {cap : Option Nat} {e c' : Nat} {a : Addr} (hs : ∀ b, blkSize w b ≤ blkSize w' b) (h : SlAt w L off len cap e c' a) : SlAt w' L off len cap e c' a := by
  obtain ⟨h, h3⟩ := h
  refine ⟨?_, h3⟩
  rcases h with ⟨h1, h2⟩ | h
  · exact .inl ⟨h1, fun hc => Nat.le_trans (h2 hc) (hs _)⟩
  · exact .inr h

mutual
theorem RepV.mono {m m' : Mp} {w w' : World} (g : Grows m w m' w') : ∀ {a : AV} {v : Value}, RepV m w a v → RepV m' w' a v
  | _, _, .undef v => .undef v
  | _, _, .bool b => .bool b
  | _, _, .int k n => .int k n
  | _, _, .str s => .str s
  | _, _, .pnil => .pnil
  | _, _, .ptr id off L h => .ptr id off L (g.map _ _ h)
  | _, _, .snil e => .snil e
  | _, _, .slice id off len cap e L c' a h hl hc ha => .slice id off len cap e L c' a (g.map _ _ h) hl hc (ha.mono g.size)
  | _, _, .mnil => .mnil
  | _, _, .map id L h => .map id L (g.map _ _ h)
  | _, _, .func fn f1 c1 f2 c2 hf hc => .func fn f1 c1 f2 c2 (RepL.mono g hf) (RepL.mono g hc)
  | _, _, .nilFunc => .nilFunc
  | _, _, .iface t v u h => .iface t v u (RepV.mono g h)
  | _, _, .nilIface => .nilIface
  | _, _, .agg cs ds h => .agg cs ds (RepL.mono g h)
  | _, _, .tuple cs ds h => .tuple cs ds (RepL.mono g h)
theorem RepL.mono {m m' : Mp} {w w' : World} (g : Grows m w m' w') : ∀ {x : List AV} {y : List Value}, RepL m w x y → RepL m' w' x y
  | _, _, .nil => .nil
  | _, _, .cons a v x y h t => .cons a v x y (RepV.mono g h) (RepL.mono g t)
end

section
variable {m : Mp} {w : World}

theorem RepL.length {x : List AV} {y : List Value} (h : RepL m w x y) : x.length = y.length := by
  induction x generalizing y with
  | nil => cases h; rfl
  | cons a x ih => cases h with | cons _ v _ y h t => simp [ih t]

theorem RepL.get {x : List AV} {y : List Value} (h : RepL m w x y) : ∀ {i : Nat} {a : AV}, x[i]? = some a → ∃ v, y[i]? = some v ∧ RepV m w a v := by
  induction x generalizing y with
  | nil => intro i a e; simp at e
  | cons b x ih =>
    cases h with
    | cons _ v _ y h t =>
      intro i a e
      cases i with
      | zero => simp at e; subst e; exact ⟨v, rfl, h⟩
      | succ i => simpa using ih t (by simpa using e)

theorem RepL.append {x : List AV} {y : List Value} {x' : List AV} {y' : List Value} (h : RepL m w x y) (h' : RepL m w x' y') : RepL m w (x ++ x') (y ++ y') := by
  induction x generalizing y with
  | nil => cases h; exact h'
  | cons a x ih => cases h with | cons _ v _ y h t => exact .cons _ _ _ _ h (ih t)

theorem RepL.take {x : List AV} {y : List Value} (h : RepL m w x y) (n : Nat) : RepL m w (x.take n) (y.take n) := by
  induction x generalizing y n with
  | nil => cases h; simpa using .nil
  | cons a x ih => cases h with | cons _ v _ y h t => cases n with | zero => exact .nil | succ n => exact .cons _ _ _ _ h (ih t n)

theorem RepL.drop {x : List AV} {y : List Value} (h : RepL m w x y) (n : Nat) : RepL m w (x.drop n) (y.drop n) := by
  induction x generalizing y n with
  | nil => cases h; simpa using .nil
  | cons a x ih => cases h with | cons _ v _ y h t => cases n with | zero => exact .cons _ _ _ _ h t | succ n => exact ih t n

theorem RepL.set {x : List AV} {y : List Value} (h : RepL m w x y) (n : Nat) {a : AV} {v : Value} (hv : RepV m w a v) : RepL m w (x.set n a) (y.set n v) := by
  induction x generalizing y n with
  | nil => cases h; simpa using .nil
  | cons b x ih => cases h with | cons _ u _ y h t => cases n with | zero => exact .cons _ _ _ _ hv t | succ n => exact .cons _ _ _ _ h (ih t n)

theorem RepL.replicate (n : Nat) (v : Value) {a : AV} (h : RepV m w a v) : RepL m w (List.replicate n a) (List.replicate n v) := by
  induction n with
  | zero => exact .nil
  | succ n ih => exact .cons _ _ _ _ h ih

theorem RepV.one {a : AV} {v : Value} (h : RepV m w a v) (h1 : a.one = true) : v.oneCell' = true := by
  cases h <;> simp_all [AV.one, Value.oneCell']

/-- The cells of a value. -/
theorem RepV.cells {a : AV} {v : Value} (h : RepV m w a v) (h1 : a.cells.all AV.one = true) : RepL m w a.cells v.cells.toList := by
  cases h with
  | agg cs ds h => exact h
  | undef v => simp [AV.cells, AV.one] at h1
  | tuple cs ds h => simp [AV.cells, AV.one] at h1
  | _ => exact .cons _ _ _ _ (by constructor <;> assumption) .nil

theorem RepL.one {x : List AV} {y : List Value} (h : RepL m w x y) (h1 : x.all AV.one = true) : ∀ u ∈ y, u.oneCell' = true := by
  induction x generalizing y with
  | nil => cases h; simp
  | cons a x ih =>
    cases h with
    | cons _ v _ y h t =>
      simp at h1
      intro u hu
      rcases List.mem_cons.1 hu with rfl | hu
      · exact h.one h1.1
      · exact ih t (by simpa using h1.2) u hu
end

/-- A block that is the machine's own. -/
def Blk.own : Blk → Bool | .cells _ o => o | .glob _ _ => false | .dead => false | _ => true

/-- A map, an iterator. -/
def Blk.isObj : Blk → Bool | .cells _ _ => false | .glob _ _ => false | .dead => false | _ => true

/-- A map's entries. -/
inductive RepEs (m : Mp) (w : World) : List (AV × AV × Nat) → List MapEntry → Prop
  | nil : RepEs m w [] []
  | cons (k v : AV) (n : Nat) (e : MapEntry) (x : List (AV × AV × Nat)) (y : List MapEntry) (hk : RepV m w k e.key) (hv : RepV m w v e.val) (hb : e.born = n) (t : RepEs m w x y) : RepEs m w ((k, v, n) :: x) (e :: y)

theorem RepEs.mono {m m' : Mp} {w w' : World} (g : Grows m w m' w') {x : List (AV × AV × Nat)} {y : List MapEntry} (h : RepEs m w x y) : RepEs m' w' x y := by
  induction h with
  | nil => exact .nil
  | cons k v n e x y hk hv hb _ ih => exact .cons k v n e x y (hk.mono g) (hv.mono g) hb ih

def ObjRep (m : Mp) (w : World) : Blk → Obj → Prop
  | .map es c, .map ces c' => c = c' ∧ RepEs m w es ces.toList
  | .siter s p, .stringIter s' p' => s = s' ∧ p = p'
  | .miter none a b c, .mapIter none a' b' c' => a = a' ∧ b = b'.toList ∧ c = c'
  | .miter (some i) a b c, .mapIter (some k) a' b' c' => a = a' ∧ b = b'.toList ∧ c = c' ∧ ∃ L, m i = some L ∧ L.blk = k
  | _, _ => False

theorem ObjRep.mono {m m' : Mp} {w w' : World} (g : Grows m w m' w') {x : Blk} {o : Obj} (h : ObjRep m w x o) : ObjRep m' w' x o := by
  unfold ObjRep at h ⊢
  split at h
  · exact ⟨h.1, h.2.mono g⟩
  · exact h
  · exact h
  · obtain ⟨h1, h2, h3, L, h4, h5⟩ := h; exact ⟨h1, h2, h3, L, g.map _ _ h4, h5⟩
  · exact h.elim

/-- An abstract heap stands for a part of the model's: below B nothing is written. -/
structure Sim (B : Nat) (σ : St) (m : Mp) (w : World) : Prop where
  row : ∀ id cs own, σ.get id = some (.cells cs own) → ∃ L ccs el fr, m id = some L ∧ L.size = cs.length ∧ w.heap[L.blk]? = some (.cells ccs el fr) ∧
    L.base + cs.length ≤ ccs.size ∧ RepL m w cs ((ccs.toList.drop L.base).take cs.length) ∧ cs.all AV.one = true ∧
    (own = true → B ≤ L.blk ∧ fr = (0, 0)) ∧ (own = false → L.blk < B)
  obj : ∀ id x, σ.get id = some x → x.isObj = true → ∃ L o, m id = some L ∧ (B ≤ L.blk ∧ L.base = 0) ∧ w.heap[L.blk]? = some o ∧ ObjRep m w x o
  sep : ∀ i j x y L M, σ.get i = some x → σ.get j = some y → x.own = true → y.own = true → m i = some L → m j = some M → L.blk = M.blk → i = j
  le : B ≤ w.heap.size
  glob : ∀ id g cs, σ.get id = some (.glob g cs) → (g < B ∧ ∃ L, m id = some L) ∧ ∃ ccs el fr, w.heap[g]? = some (.cells ccs el fr) ∧ RepL m w cs ccs.toList

/-- An own block lies in a block that is there, from B on. -/
theorem Sim.there {B : Nat} {σ : St} {m : Mp} {w : World} (hs : Sim B σ m w) {i : Nat} {x : Blk} {L : Loc} (hi : σ.get i = some x) (ho : x.own = true) (hm : m i = some L) : B ≤ L.blk ∧ L.blk < w.heap.size := by
  cases hx : x.isObj with
  | true =>
    obtain ⟨L2, o, h1, h2, h3, _⟩ := hs.obj i x hi hx
    rw [hm] at h1; obtain rfl := Option.some.inj h1
    exact ⟨h2.1, (Array.getElem?_eq_some_iff.1 h3).1⟩
  | false =>
    cases x with
    | cells cs o =>
      obtain ⟨L2, c2, el2, fr2, p1, p2, p3, p4, p5, p6, p7, p8⟩ := hs.row i cs o hi
      rw [hm] at p1; obtain rfl := Option.some.inj p1
      exact ⟨(p7 ho).1, (Array.getElem?_eq_some_iff.1 p3).1⟩
    | dead => simp [Blk.own] at ho
    | glob g cs => simp [Blk.own] at ho
    | _ => simp [Blk.isObj] at hx

end Go.AM

set_option linter.unusedVariables false
set_option linter.unusedSimpArgs false
namespace Go.AM

theorem AV.toSl_some {e : Nat} {v : AV} {s : Sl} (h : v.toSl e = some s) : v = .slice s.o s.len s.cap e := by
  cases v <;> simp [AV.toSl] at h
  obtain ⟨rfl, rfl⟩ := h; rfl
theorem AV.toInt_some {k : IntKind} {v : AV} {n : Int} (h : v.toInt k = some n) : v = .int k n := by
  cases v <;> simp [AV.toInt] at h
  obtain ⟨rfl, rfl⟩ := h; rfl
theorem AV.toBool_some {v : AV} {b : Bool} (h : v.toBool = some b) : v = .bool b := by
  cases v <;> simp [AV.toBool] at h
  subst h; rfl
theorem AV.toAgg_some {v : AV} {b : List AV} (h : v.toAgg = some b) : v = .agg b := by
  cases v <;> simp [AV.toAgg] at h
  subst h; rfl
theorem AV.toTuple_some {v : AV} {b : List AV} (h : v.toTuple = some b) : v = .tuple b := by
  cases v <;> simp [AV.toTuple] at h
  subst h; rfl

section
variable {R : Type}

theorem castSh_nat {s : Sh} {v : AV} {K : AV → Option R} {r : R} (h : castSh s v K = some r) : K v = some r ∧ ∀ (R' : Type) (K' : AV → Option R'), castSh s v K' = K' v := by
  cases s with
  | bool => cases v <;> simp_all [castSh, AV.toBool]
  | int k =>
    cases v <;> simp only [castSh, AV.toInt, Option.bind_none, reduceCtorEq] at h ⊢
    rename_i j n
    by_cases hj : j = k
    · subst hj; simp only [if_true, Option.bind_some] at h ⊢; exact ⟨h, fun _ _ => trivial⟩
    · simp [hj] at h
  | str => cases v <;> simp_all [castSh, AV.toStr]
  | ptr => cases v <;> simp_all [castSh, AV.toPtr]
  | slice e =>
    cases v <;> simp only [castSh, AV.toSl, Option.bind_none, reduceCtorEq] at h ⊢
    rename_i o n c j
    by_cases hj : j = e
    · subst hj; simp only [if_true, Option.bind_some] at h ⊢; exact ⟨h, fun _ _ => trivial⟩
    · simp [hj] at h
  | map => cases v <;> simp_all [castSh, AV.toMap]
  | any =>
    simp only [castSh] at h ⊢
    by_cases h1 : v.one = true
    · rw [if_pos h1] at h; exact ⟨h, fun _ _ => by rw [if_pos h1]⟩
    · rw [if_neg h1] at h; simp at h

theorem castL_nat : ∀ {ss : List Sh} {vs : List AV} {K : List AV → Option R} {r : R}, castL ss vs K = some r →
    ss.length ≤ vs.length ∧ K (vs.take ss.length) = some r ∧ ∀ (R' : Type) (K' : List AV → Option R'), castL ss vs K' = K' (vs.take ss.length) := by
  intro ss
  induction ss with
  | nil => intro vs K r h; exact ⟨Nat.zero_le _, h, fun _ _ => rfl⟩
  | cons s ss ih =>
    intro vs K r h
    cases vs with
    | nil => simp [castL] at h
    | cons v vs =>
      simp only [castL, List.head?_cons, Option.bind_some, List.tail_cons] at h ⊢
      obtain ⟨h1, h2⟩ := castSh_nat h
      obtain ⟨h3, h4, h5⟩ := ih h1
      refine ⟨by simpa using h3, by simpa using h4, fun R' K' => ?_⟩
      rw [h2, h5]; simp

theorem castVal_nat {P : Program} {t : TypeId} {v : AV} {K : AV → Option R} {r : R} (h : castVal P t v K = some r) :
    K v = some r ∧ ∀ (R' : Type) (K' : AV → Option R'), castVal P t v K' = K' v := by
  unfold castVal at h ⊢
  cases hs : shOf P depthT t with
  | none => simp [hs] at h
  | some shs =>
    simp only [hs] at h ⊢
    by_cases ha : isAggT P t = true
    · simp only [ha, if_true] at h ⊢
      cases hv : v.toAgg with
      | none => simp [hv] at h
      | some cs =>
        obtain rfl := AV.toAgg_some hv
        simp only [hv, Option.bind_some] at h ⊢
        by_cases hl : cs.length = shs.length
        · simp only [hl, if_true] at h ⊢
          obtain ⟨_, h2, h3⟩ := castL_nat h
          rw [← hl, List.take_length] at h2 h3
          exact ⟨h2, fun R' K' => h3 R' _⟩
        · simp [hl] at h
    · simp only [ha, if_false, Bool.false_eq_true] at h ⊢
      match shs, h with
      | [s], h => exact castSh_nat h

theorem castVals_nat {P : Program} : ∀ {ts : List TypeId} {vs : List AV} {K : List AV → Option R} {r : R}, castVals P ts vs K = some r →
    ts.length ≤ vs.length ∧ K (vs.take ts.length) = some r := by
  intro ts
  induction ts with
  | nil => intro vs K r h; exact ⟨Nat.zero_le _, h⟩
  | cons t ts ih =>
    intro vs K r h
    cases vs with
    | nil => simp [castVals] at h
    | cons v vs =>
      simp only [castVals, List.head?_cons, Option.bind_some, List.tail_cons] at h
      obtain ⟨h1, h2⟩ := ih (castVal_nat h).1
      exact ⟨by simpa using h1, by simpa using h2⟩

theorem castRes_some {P : Program} {t : TypeId} {v : AV} {K : AV → Option R} {r : R} (h : castRes P t v K = some r) : K v = some r := by
  unfold castRes at h
  split at h
  · cases hv : v.toTuple with
    | none => simp [hv] at h
    | some vs =>
      obtain rfl := AV.toTuple_some hv
      simp only [hv, Option.bind_some] at h
      split at h
      · rename_i hl
        obtain ⟨_, h2⟩ := castVals_nat h
        rwa [← hl, List.take_length] at h2
      · simp at h
  · exact (castVal_nat h).1

theorem ldT_some {σ : St} {b : Nat} : ∀ {shs : List Sh} {off : Nat} {K : List AV → Option R} {r : R}, ldT σ b off shs K = some r →
    ∃ cs, K cs = some r ∧ cs.length = shs.length ∧ (∀ i v, cs[i]? = some v → σ.ld b (off + i) = some v) ∧
      ∀ (σ' : St), (∀ i v, cs[i]? = some v → σ'.ld b (off + i) = some v) → ∀ (R' : Type) (K' : List AV → Option R'), ldT σ' b off shs K' = K' cs := by
  intro shs
  induction shs with
  | nil => intro off K r h; exact ⟨[], h, rfl, by simp, fun _ _ _ _ => rfl⟩
  | cons s ss ih =>
    intro off K r h
    simp only [ldT] at h
    cases hv : σ.ld b off with
    | none => simp [hv] at h
    | some v =>
      simp only [hv, Option.bind_some] at h
      obtain ⟨h1, h2⟩ := castSh_nat h
      obtain ⟨cs, h3, h4, h5, h6⟩ := ih h1
      refine ⟨v :: cs, h3, by simp [h4], ?_, ?_⟩
      · intro i u hu
        cases i with
        | zero => simp at hu; subst hu; exact hv
        | succ i => rw [show off + (i + 1) = off + 1 + i by omega]; exact h5 i u (by simpa using hu)
      · intro σ' hσ R' K'
        simp only [ldT]
        rw [show σ'.ld b off = some v from hσ 0 v rfl]
        simp only [Option.bind_some]
        rw [h2, h6 σ' (fun i u hu => by rw [show off + 1 + i = off + (i + 1) by omega]; exact hσ (i + 1) u (by simpa using hu))]

end

/-- A loaded cell lies in a live row. -/
theorem St.ld_some {σ : St} {b off : Nat} {v : AV} (h : σ.ld b off = some v) : ∃ cs own, σ.get b = some (.cells cs own) ∧ cs[off]? = some v := by
  unfold St.ld St.row at h
  cases hg : σ.get b with
  | none => simp [hg] at h
  | some x => cases x <;> simp [hg] at h; exact ⟨_, _, rfl, h⟩

section
variable {B : Nat} {σ : St} {m : Mp} {w : World}

/-- A cell that the machine reads lies in the model's memory. -/
theorem Sim.cell (hs : Sim B σ m w) {b off : Nat} {v : AV} {L : Loc} (h : σ.ld b off = some v) (hm : m b = some L) :
    ∃ u, w.cell? ⟨L.blk, L.base + off, none⟩ = some u ∧ RepV m w v u ∧ u.oneCell' = true ∧ v.one = true := by
  obtain ⟨cs, own, hg, hv⟩ := St.ld_some h
  obtain ⟨L', ccs, el, fr, h1, h2, h3, h4, h5, h6, _⟩ := hs.row b cs own hg
  rw [hm] at h1; obtain rfl := Option.some.inj h1
  obtain ⟨u, hu, hr⟩ := h5.get hv
  have hlt : off < cs.length := (List.getElem?_eq_some_iff.1 hv).1
  rw [List.getElem?_take, if_pos hlt, List.getElem?_drop] at hu
  have h1v : v.one = true := List.all_eq_true.1 h6 v (List.mem_of_getElem? hv)
  refine ⟨u, ?_, hr, hr.one h1v, h1v⟩
  simp [World.cell?, h3]
  simpa using hu

/-- What is known of a live row's place. -/
theorem Sim.at (hs : Sim B σ m w) {b off : Nat} {v : AV} (h : σ.ld b off = some v) : ∃ L, m b = some L := by
  obtain ⟨cs, own, hg, hv⟩ := St.ld_some h
  obtain ⟨L', ccs, el, fr, h1, _⟩ := hs.row b cs own hg
  exact ⟨L', h1⟩
end

/-- The temporaries. -/
def RepE (m : Mp) (w : World) (e : Env) (a : Act) : Prop := RepL m w e a.tmps.toList

section
variable {m : Mp} {w : World} {P : Program}

theorem ofV_rep (v : Value) : RepV m w (ofV v) v := by
  unfold ofV
  split <;> first | exact .undef _ | constructor

theorem ofVT_rep (t : TypeId) (v : Value) : RepV m w (ofVT P t v) v := by
  unfold ofVT
  split
  · exact .snil _
  · next _ _ vs =>
    split
    · next hz =>
      refine .tuple [] vs ?_
      have : vs = #[] := by simpa using hz
      subst this; exact .nil
    · exact .undef _
  · exact ofV_rep _

theorem RepE.at {e : Env} {a : Act} (h : RepE m w e a) (t : Nat) : RepV m w (e.at t) (a.tmps.getD t undef) := by
  unfold Env.at
  cases he : e[t]? with
  | none => exact .undef _
  | some v =>
    obtain ⟨u, hu, hr⟩ := RepL.get h he
    have : a.tmps.getD t undef = u := by
      simp only [Array.getElem?_toList] at hu
      simp [Array.getD_eq_getD_getElem?, hu]
    rw [this]; exact hr

theorem ev_rep {e : Env} {a : Act} (h : RepE m w e a) (x : Operand) : RepV m w (ev P e x) (a.eval x) := by
  cases x with
  | tmp t => exact h.at t
  | const v => exact ofV_rep v
  | global g => exact .undef _
  | func f => exact .func _ [] [] #[] #[] .nil .nil

theorem evT_rep {e : Env} {a : Act} (h : RepE m w e a) (t : TypeId) (x : Operand) : RepV m w (evT P e t x) (a.eval x) := by
  cases x with
  | const v => exact ofVT_rep t v
  | tmp i => exact ev_rep (P := P) h (.tmp i)
  | global g => exact ev_rep (P := P) h (.global g)
  | func f => exact ev_rep (P := P) h (.func f)

theorem RepE.put {e : Env} {a : Act} (h : RepE m w e a) (d : Option Tmp) {v : AV} {u : Value} (hv : RepV m w v u) : RepE m w (Env.put e d v) (a.put d u) := by
  cases d with
  | none => exact h
  | some d => unfold RepE Act.put Env.put; simp only [Array.toList_setIfInBounds]; exact RepL.set h d hv

theorem RepE.mono {m' : Mp} {w' : World} {e : Env} {a : Act} (g : Grows m w m' w') (h : RepE m w e a) : RepE m' w' e a := RepL.mono g h

/-- A temporary that is known better. -/
theorem RepE.refine {e : Env} {a : Act} (h : RepE m w e a) {g : Nat} {b : Bool} (hg : e.at g = .bool b) : RepE m w (e.set g (.bool b)) a := by
  unfold Env.at at hg
  cases he : e[g]? with
  | none => simp [he] at hg
  | some v =>
    simp [he] at hg; subst hg
    have : e.set g (.bool b) = e := by
      apply List.ext_getElem?
      intro i
      rw [List.getElem?_set]
      split
      · rename_i hi; subst hi; rw [he]; split <;> simp_all
      · rfl
    rw [this]; exact h
end

/-- What an operation does: it hands a value back, or none. -/
def Does (P : Program) (o : Oper) (a : Act) (w : World) (cv : Value) (w' : World) : Prop :=
  (execOp a.eval o).run P w = .ok (.value cv) w' ∨ (cv = undef ∧ (execOp a.eval o).run P w = .ok .skip w')

theorem Does.wp {P : Program} {o : Oper} {a : Act} {w w' : World} {cv : Value} {next : Act → World → Prop} {Q : Exit → Act → World → Prop}
    (h : Does P o a w cv w') (hn : next (a.put o.dst cv) w') : o.wp P a w next Q := by
  unfold Oper.wp
  rcases h with h | ⟨rfl, h⟩ <;> rw [h] <;> exact hn

end Go.AM
