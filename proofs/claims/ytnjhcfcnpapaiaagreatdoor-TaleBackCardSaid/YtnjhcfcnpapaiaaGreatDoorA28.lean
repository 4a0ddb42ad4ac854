/- The machine's heap: what is read behind what was written. -/
import Derived.Test.YtnjhcfcnpapaiaaGreatDoorA27
set_option linter.unusedVariables false
set_option linter.unusedSimpArgs false
namespace Go.AM

theorem Heap.set_set : ∀ (f : Nat) (h : Heap) (k : Nat) (x y : Blk), k ≤ f → Heap.set f (Heap.set f h k x) k y = Heap.set f h k y := by
  intro f
  induction f with
  | zero => intro h k x y hk; obtain rfl : k = 0 := by omega
            cases h <;> simp [Heap.set]
  | succ f ih =>
    intro h k x y hk
    cases k with
    | zero => cases h <;> simp [Heap.set]
    | succ k =>
      cases h with
      | leaf =>
        simp only [Heap.set]
        by_cases hp : k % 2 = 0
        · simp only [hp, if_true, Heap.set]; rw [ih _ _ _ _ (by omega)]
        · simp only [hp, if_false, Heap.set]; rw [ih _ _ _ _ (by omega)]
      | node v l r =>
        simp only [Heap.set]
        by_cases hp : k % 2 = 0
        · simp only [hp, if_true, Heap.set]; rw [ih _ _ _ _ (by omega)]
        · simp only [hp, if_false, Heap.set]; rw [ih _ _ _ _ (by omega)]

namespace St
variable (σ : St)

theorem put_put (b : Nat) (x y : Blk) : (σ.put b x).put b y = σ.put b y := by
  simp only [put, Heap.set']; rw [Heap.set_set _ _ _ _ _ (Nat.le_refl _)]
theorem put_new (x y : Blk) : (σ.new x).put σ.next y = σ.new y := by
  simp only [put, new, Heap.set']; rw [Heap.set_set _ _ _ _ _ (Nat.le_refl _)]

theorem ld_of {b : Nat} {cs : List AV} {own : Bool} (h : σ.get b = some (.cells cs own)) (off : Nat) : σ.ld b off = cs[off]? := by simp [ld, row, h]
theorem rowOwn_of {b : Nat} {cs : List AV} (h : σ.get b = some (.cells cs true)) : σ.rowOwn b = some cs := by simp [rowOwn, h]
theorem row_of {b : Nat} {cs : List AV} {own : Bool} (h : σ.get b = some (.cells cs own)) : σ.row b = some cs := by simp [row, h]
theorem st_of {b : Nat} {cs : List AV} (h : σ.get b = some (.cells cs true)) (off : Nat) (vs : List AV) (hl : off + vs.length ≤ cs.length) : σ.st b off vs = some (σ.put b (.cells (splice cs off vs) true)) := by
  simp [st, rowOwn_of σ h, hl]
theorem lds_of {b : Nat} {cs : List AV} {own : Bool} (h : σ.get b = some (.cells cs own)) (off n : Nat) (hl : off + n ≤ cs.length) : σ.lds b off n = some ((cs.drop off).take n) := by
  simp [lds, row_of σ h, hl]

theorem ld_new_self (cs : List AV) (own : Bool) (off : Nat) : (σ.new (.cells cs own)).ld σ.next off = cs[off]? := ld_of _ (own := own) (by simp) off
theorem ld_new_other {b : Nat} (h : b ≠ σ.next) (x : Blk) (off : Nat) : (σ.new x).ld b off = σ.ld b off := by simp [ld, row, h]
theorem ld_put_self (b : Nat) (cs : List AV) (own : Bool) (off : Nat) : (σ.put b (.cells cs own)).ld b off = cs[off]? := ld_of _ (own := own) (by simp) off
theorem ld_put_other {b c : Nat} (h : b ≠ c) (x : Blk) (off : Nat) : (σ.put c x).ld b off = σ.ld b off := by simp [ld, row, h]
theorem st_new_self (cs : List AV) (off : Nat) (vs : List AV) (hl : off + vs.length ≤ cs.length) : (σ.new (.cells cs true)).st σ.next off vs = some (σ.new (.cells (splice cs off vs) true)) := by
  rw [st_of _ (cs := cs) (by simp) off vs hl, put_new]
theorem splice_all (cs vs : List AV) (h : vs.length = cs.length) : splice cs 0 vs = vs := by simp [splice, h]
end St
end Go.AM
