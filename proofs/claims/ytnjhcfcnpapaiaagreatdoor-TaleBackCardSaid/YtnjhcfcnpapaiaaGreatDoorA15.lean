/- The abstract machine against the model: append, copy, stores, allocations as operations. -/
import Derived.Test.YtnjhcfcnpapaiaaGreatDoorA14
set_option linter.unusedVariables false
set_option linter.unusedSimpArgs false
namespace Go.AM
open Go.RowKit (Below)

/-- What numbers have been given out. -/
def Fresh (m : Mp) (σ : St) (m' : Mp) (σ' : St) : Prop := (σ'.next = σ.next ∧ m' = m) ∨ (σ'.next = σ.next + 1 ∧ ∃ L, m' = upd m σ.next L)

theorem Fresh.fr {m m' : Mp} {σ σ' : St} (h : Fresh m σ m' σ') (hf : Fr m σ.next) : Fr m' σ'.next := by
  rcases h with ⟨h1, rfl⟩ | ⟨h1, L, rfl⟩
  · rw [h1]; exact hf
  · rw [h1]
    intro i hi
    unfold upd
    rw [if_neg (by omega)]
    exact hf i (by omega)

section
variable {B : Nat} {σ : St} {m : Mp} {w : World} {P : Program} {R : Type}

theorem Grows.drew : Grows m w m w.drew := ⟨fun _ _ h => h, fun _ => Nat.le_refl _⟩
theorem Grows.undrew : Grows m w.drew m w := ⟨fun _ _ h => h, fun _ => Nat.le_refl _⟩

theorem Sim.drew (hs : Sim B σ m w) : Sim B σ m w.drew := by
  refine ⟨fun id cs own h => ?_, fun id x h hx => ?_, hs.sep, hs.le, hs.globs Grows.drew (Below.refl B w).drew fun _ _ _ h => h⟩
  · obtain ⟨L, ccs, el, fr, h1, h2, h3, h4, h5, h6⟩ := hs.row id cs own h
    exact ⟨L, ccs, el, fr, h1, h2, h3, h4, RepL.mono Grows.drew h5, h6⟩
  · obtain ⟨L, o, h1, h2, h3, h4⟩ := hs.obj id x h hx
    exact ⟨L, o, h1, h2, h3, h4.mono Grows.drew⟩

/-- A block that is no longer used. -/
theorem Sim.kill (hs : Sim B σ m w) (b : Nat) : Sim B (σ.put b .dead) m w := by
  refine ⟨fun id cs own h => ?_, fun id x h hx => ?_, fun i j x y L M hi hj hx hy => ?_, hs.le, hs.globs (.refl _ _) (Below.refl B w) fun id n cs h => by
    rw [St.get_put] at h; split at h
    · simp at h
    · exact h⟩
  · rw [St.get_put] at h
    split at h
    · simp at h
    · exact hs.row id cs own h
  · rw [St.get_put] at h
    split at h
    · simp only [Option.some.injEq] at h; subst h; simp [Blk.isObj] at hx
    · exact hs.obj id x h hx
  · rw [St.get_put] at hi hj
    split at hi
    · simp only [Option.some.injEq] at hi; subst hi; simp [Blk.own] at hx
    · split at hj
      · simp only [Option.some.injEq] at hj; subst hj; simp [Blk.own] at hy
      · exact hs.sep i j x y L M hi hj hx hy

theorem app_sim (hs : Sim B σ m w) (hn : m σ.next = none) {t u ty el el' : TypeId} (ht : P.underlying t = some (.slice el)) (hu : P.underlying u = some (.slice el')) {e : Nat} (he : e = P.cellsOf el) (hz : (zeroCellsT P el).map List.length = some e) (h0 : 0 < e)
    {o o' : Option (Nat × Nat)} {n n' : Nat} {c c' : Option Nat} {sv xv : Value} (hsv : RepV m w (.slice o n c e) sv) (hxv : RepV m w (.slice o' n' c' e) xv) {news : List AV} (hne : σ.elems e ⟨o', n', c'⟩ n' = some news) {s2 : Sl} {σ2 : St}
    (h : σ.app e (P.bytesOf el) ⟨o, n, c⟩ n' news = some (s2, σ2)) :
    ∃ m' w' cv, (Builtin.append_ #[t, u] ty #[sv, xv]).run P w = .ok cv w' ∧ Sim B σ2 m' w' ∧ Grows m w m' w' ∧ Below B w w' ∧ RepV m' w' (.slice s2.o s2.len s2.cap e) cv ∧ Fresh m σ m' σ2 := by
  obtain ⟨ad, sc, rfl⟩ := slice_inv' hsv
  obtain ⟨xa, xc, rfl⟩ := slice_inv' hxv
  obtain ⟨us, hr, h1, hl, hx, hxn⟩ := hs.elems hne h0 hxv
  have hnl : news.length = n' * e := by rw [hr.length, hl]
  -- the element's row of the table
  obtain ⟨z, hzz, hzl⟩ := Option.map_eq_some_iff.1 hz
  obtain ⟨ie, zv, hie, hzv, hzr, _⟩ := zeroCellsT_rep (m := m) (w := w) hzz
  have hzs : zv.cells.size = e := by have := hzr.length; simp at this; omega
  have hscn : n ≤ sc ∧ ∀ d, c = some d → sc = d := by
    cases hsv with
    | snil => exact ⟨Nat.le_refl _, fun d hd => by cases hd; rfl⟩
    | slice id off len cap e L c' ad hm hl hc ha => exact ⟨hl, hc⟩
  subst he
  unfold St.app at h
  split at h
  · -- nothing is appended
    rename_i hn0
    subst hn0
    simp only [Option.some.injEq, Prod.mk.injEq] at h
    obtain ⟨rfl, rfl⟩ := h
    have hus : us = [] := List.eq_nil_of_length_eq_zero (by simpa using hl)
    subst hus
    refine ⟨m, w, _, run_app_room ht hu hie (by simp) hx hxn (show n + 0 ≤ sc by omega) (fun a _ => rfl) (fun _ => rfl), hs, .refl _ _, Below.refl _ _, hsv, .inl ⟨rfl, rfl⟩⟩
  · rename_i hn0
    split at h
    · simp at h
    · rename_i hbig
      have hb : (n + n') * (P.bytesOf el + 1) ≤ 2 ^ 46 := by simp only at hbig; omega
      -- it grows
      have grow : ∀ (olds : List AV), σ.elems (P.cellsOf el) ⟨o, n, c⟩ n = some olds → sc < n + n' → ∀ (σ1 σ' : St), Sim B σ1 m w → (∀ i, σ'.get i = if i = σ.next then some (.cells (olds ++ news) true) else σ1.get i) → σ'.next = σ.next + 1 →
          ∃ m' w' cv, (Builtin.append_ #[t, u] ty #[.slice ad n sc, .slice xa n' xc]).run P w = .ok cv w' ∧ Sim B σ' m' w' ∧ Grows m w m' w' ∧ Below B w w' ∧ RepV m' w' (.slice (some (σ.next, 0)) (n + n') none (P.cellsOf el)) cv ∧ Fresh m σ m' σ' := by
        intro olds hol hsc σ1 σ' hs1 hσ' hnext
        obtain ⟨vs, hvr, hv1, hvl, hvc, hvn⟩ := hs.elems hol h0 hsv
        obtain ⟨cap, extra, hcap, hext, hrun⟩ := run_app_grow (ty := ty) ht hu hie hzv hl hvl hvc hvn hx hxn hsc hb
        have hsz := hext _ rfl hzs
        have hlen : (olds ++ news).length = (n + n') * P.cellsOf el := by rw [List.length_append, hvr.length, hvl, hnl, Nat.add_mul]
        have hrr : RepL m w.drew (olds ++ news) (vs ++ us).toArray.toList := by simpa using RepL.mono Grows.drew (hvr.append hr)
        obtain ⟨g1, g2, g3⟩ := new_sim_at hs1.drew el hrr (by rw [List.all_append, hv1, h1]; rfl) hn (extra := extra)
        refine ⟨_, _, _, hrun, g3 σ' hσ', Grows.trans Grows.drew g1, (Below.refl B w).drew.trans g2, ?_, .inr ⟨hnext, _, rfl⟩⟩
        refine .slice σ.next 0 _ _ _ ⟨w.heap.size, 0, (olds ++ news).length⟩ cap _ (by simp [upd]) hcap (by simp) ⟨.inl ⟨rfl, ?_⟩, fun _ => ?_⟩
        · have : blkSize (w.drew.alloc (.cells ((vs ++ us).toArray ++ extra) el)) w.heap.size = (vs ++ us).length + extra.size := by
            unfold blkSize
            have : (w.drew.alloc (.cells ((vs ++ us).toArray ++ extra) el)).heap[w.heap.size]? = some (.cells ((vs ++ us).toArray ++ extra) el (0, 0)) := by
              show (w.heap.push _)[w.heap.size]? = _
              simp
            rw [this]; simp
          intro _
          show 0 + 0 + cap * P.cellsOf el ≤ _
          rw [this, hsz, List.length_append, hvl, hl, ← Nat.add_mul, ← Nat.add_mul]
          rw [show n + n' + (cap - (n + n')) = cap by omega]; omega
        · show (olds ++ news).length ≤ 0 + cap * P.cellsOf el
          rw [hlen, Nat.zero_add]; exact Nat.mul_le_mul_right _ hcap
      split at h
      · -- the capacity is known
        rename_i d hcd
        simp only at hcd
        have hscd := hscn.2 d hcd
        subst hscd
        split at h
        · rename_i hfit
          simp only at hfit
          simp only [Option.bind_eq_some_iff, Option.some.injEq, Prod.mk.injEq] at h
          obtain ⟨⟨id, off⟩, ho, σ', hst, h⟩ := h
          obtain ⟨rfl, rfl⟩ := h
          subst ho
          obtain ⟨L, c2, ad2, hL, heq, hle, hcc, ha⟩ := slice_inv hsv
          simp only [Value.slice.injEq] at heq
          obtain ⟨rfl, _, rfl⟩ := heq
          rcases ha.1 with ⟨rfl, hroom⟩ | ⟨h3, h4⟩
          · obtain ⟨w', hr1, hr2, hr3, hr4, hr5⟩ := store_sim (P := P) hs hst hL hr h1
            refine ⟨m, w', _, run_app_room (w' := w') ht hu hie hl hx hxn hfit (fun a hae => ?_) (by simp), hr2, hr3, hr4, ?_, .inl ⟨hr5, rfl⟩⟩
            · simp only [Option.some.injEq] at hae; subst hae
              simp only [Addr.add_lit]; rw [show L.base + off + n * P.cellsOf el = L.base + (off + n * P.cellsOf el) by omega]; exact hr1
            · subst hcd
              exact .slice id off _ _ _ L sc _ hL (by omega) (fun d hd => by simp at hd; exact hd) ⟨.inl ⟨rfl, fun hc => Nat.le_trans (hroom hc) (hr3.size _)⟩, by simp⟩
          · omega
        · rename_i hnofit
          simp only at hnofit
          simp only [Option.bind_eq_some_iff, Option.some.injEq, Prod.mk.injEq] at h
          obtain ⟨olds, hol, rfl, rfl⟩ := h
          exact grow olds hol (by omega) σ _ hs (fun i => by rw [St.get_new]) rfl
      · -- it is not known
        rename_i hcn
        simp only at hcn
        subst hcn
        simp only [Option.bind_eq_some_iff] at h
        obtain ⟨⟨id, off⟩, ho, cs, hcs, h⟩ := h
        obtain rfl : o = some (id, off) := ho
        have hg := St.rowOwn_some hcs
        obtain ⟨L, c2, ad2, hL, heq, hle, hcc, ha⟩ := slice_inv hsv
        simp only [Value.slice.injEq] at heq
        obtain ⟨rfl, _, rfl⟩ := heq
        obtain ⟨L', ccs, el2, fr, q1, q2, q3, q4, q5, q6, q7, _⟩ := hs.row id cs true hg
        rw [hL] at q1; obtain rfl := Option.some.inj q1
        have hknown := ha.2 rfl
        split at h
        · -- it lies within what is known
          rename_i hfit
          simp only at hfit
          simp only [Option.bind_eq_some_iff, Option.some.injEq, Prod.mk.injEq] at h
          obtain ⟨σ', hst, rfl, rfl⟩ := h
          have hmul : (n + n') * P.cellsOf el ≤ sc * P.cellsOf el := by omega
          have hfit' : n + n' ≤ sc := Nat.le_of_mul_le_mul_right hmul h0
          rcases ha.1 with ⟨rfl, hroom⟩ | ⟨h3, h4⟩
          · obtain ⟨w', hr1, hr2, hr3, hr4, hr5⟩ := store_sim (P := P) hs hst hL hr h1
            refine ⟨m, w', _, run_app_room (w' := w') ht hu hie hl hx hxn hfit' (fun a hae => ?_) (by simp), hr2, hr3, hr4, ?_, .inl ⟨hr5, rfl⟩⟩
            · simp only [Option.some.injEq] at hae; subst hae
              simp only [Addr.add_lit]; rw [show L.base + off + n * P.cellsOf el = L.base + (off + n * P.cellsOf el) by omega]; exact hr1
            · exact .slice id off _ _ _ L sc _ hL (by omega) (by simp) ⟨.inl ⟨rfl, fun hc => Nat.le_trans (hroom hc) (hr3.size _)⟩, fun _ => hknown⟩
          · omega
        · rename_i hnofit
          simp only at hnofit
          split at h
          · rename_i hold
            simp only at hold
            simp only [Option.some.injEq, Prod.mk.injEq] at h
            obtain ⟨rfl, rfl⟩ := h
            by_cases hfit : n + n' ≤ sc
            · -- in place, beyond what is known
              rcases ha.1 with ⟨rfl, hroom0⟩ | ⟨h3, h4⟩
              · have hroom := hroom0 rfl
                have hmul : (n + n') * P.cellsOf el ≤ sc * P.cellsOf el := Nat.mul_le_mul_right _ hfit
                have hmul2 : (n + n') * P.cellsOf el = n * P.cellsOf el + n' * P.cellsOf el := Nat.add_mul _ _ _
                obtain ⟨w', hr1, hr2, hr3, hr4, hr5⟩ := extend_sim (P := P) hs hg hL hr h1 hold (by rw [hnl]; omega) hn
                refine ⟨_, w', _, run_app_room (w' := w') ht hu hie hl hx hxn hfit (fun a hae => ?_) (by simp), hr5, hr2, hr3, ?_, .inr ⟨rfl, _, rfl⟩⟩
                · simp only [Option.some.injEq] at hae; subst hae
                  simp only [Addr.add_lit]; exact hr1
                · refine .slice σ.next 0 _ _ _ ⟨L.blk, L.base + off, n * P.cellsOf el + news.length⟩ sc _ (by simp [upd]) hfit (by simp) ⟨.inl ⟨rfl, ?_⟩, fun _ => ?_⟩
                  · intro _; show L.base + off + 0 + sc * P.cellsOf el ≤ _
                    rw [hr4]; omega
                  · show n * P.cellsOf el + news.length ≤ 0 + sc * P.cellsOf el
                    rw [hnl]; omega
              · omega
            · -- it moves
              have hol : σ.elems (P.cellsOf el) ⟨some (id, off), n, none⟩ n = some ((cs.drop off).take (n * P.cellsOf el)) := by
                unfold St.elems St.lds St.row
                by_cases hn1 : n = 0
                · simp [hn1]
                · simp [hn1, hg, hold]
              exact grow _ hol (by omega) (σ.put id .dead) _ (hs.kill id) (fun i => by rw [St.get_new]; rfl) rfl
          · simp at h

end

end Go.AM
