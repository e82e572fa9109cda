/- A slice of slices of the call's own: a block of headers, each row the call's own, apart from the others. Nothing here names the program. -/
import Derived.Test.YtamhlmfcnnomgaaOwnK
import Derived.Maps.AppendAt
namespace Go.Proofs.Ytamhlmfcnnomgaa
open Go.RowKit
set_option linter.unusedVariables false

/-- append(v, y...) as in OwnK, and where the new row lies. -/
theorem run_appK2 {P : Program} {w : World} {base : Nat} {t ty e : TypeId} {k : Nat} {z : Value} {bytes : Nat} (E : ElemK P t e k z bytes) {v : Value} {n : Nat} {xs : List Value} (h : OwnK w base e k v n xs) (hb : base ≤ w.heap.size)
    {a : Option Addr} {m c : Nat} {ys : List Value} (hl : ys.length = m * k) (hy : Rd w a ys.length (fun i => ys.getD i undef)) (h1 : ∀ u ∈ ys, u.oneCell' = true)
    (h63 : n + m ≤ maxLen) (hbytes : (n + m) * bytes ≤ 140737488355328) (hnil : a = none → c = 0) :
    ∃ v' w', (Builtin.append_ #[t, t] ty #[v, .slice a m c]).run P w = .ok v' w' ∧ OwnK w' base e k v' (n + m) (xs ++ ys) ∧ Kp (fun k => v.ownBlock = some k) w w' ∧
      (v'.ownBlock = v.ownBlock ∨ v'.ownBlock = some w.heap.size) := by
  obtain ⟨i, hi, hz, hsz, hby⟩ := info_parts E.info
  cases a with
  | none =>
    obtain ⟨v', w', hr, h2, h3, h4⟩ := run_appK (P := P) (ty := ty) E h hb hl hy h1 h63 hbytes hnil
    have h0 : ys = [] := by
      cases ys with
      | nil => rfl
      | cons y r => obtain ⟨b, o, ha, _⟩ := hy 0 (by simp); cases ha
    subst h0
    obtain rfl := hnil rfl
    have hm : m = 0 := by
      rcases Nat.mul_eq_zero.1 hl.symm with h | h
      · exact h
      · have := E.pos; omega
    subst hm
    refine ⟨v, w, run_append_owned_none (P := P) (w := w) base t ty e i k E.under hi v n xs h, ?_, Kp.refl _ w, .inl rfl⟩
    rw [List.append_nil]; exact h
  | some x =>
    obtain ⟨v', w', hr, ho, hg, _, h5⟩ := run_append_own_at (P := P) w base t ty e i z k bytes E.under hi hz hsz hby E.cells E.pos v n xs h x m c ys hl (rd_cellsK hy rfl) h1 h63 hbytes hb
    exact ⟨v', w', hr, ho, Kp.of_grownK hg, h5⟩

structure Grid (W : World) (base H : Nat) (t e : TypeId) (k : Nat) (vs : List Value) (xs : List (Nat × List Value)) : Prop where
  head : W.heap[H]? = some (.cells vs.toArray t)
  len : vs.length = xs.length
  own : ∀ i (h : i < vs.length) (h' : i < xs.length), OwnK W base e k (vs[i]'h) (xs[i]'h').1 (xs[i]'h').2
  apart : ∀ i j (h : i < vs.length) (h' : j < vs.length) g, i ≠ j → (vs[i]'h).ownBlock = some g → (vs[j]'h').ownBlock ≠ some g
  far : ∀ i (h : i < vs.length), (vs[i]'h).ownBlock ≠ some H

theorem Grid.no {W W' : World} {base H : Nat} {t e : TypeId} {k : Nat} {vs : List Value} {xs : List (Nat × List Value)} (h : Grid W base H t e k vs xs) (hk : Kp no W W') : Grid W' base H t e k vs xs :=
  ⟨hk.at h.head (fun h => h), h.len, fun i h1 h2 => (h.own i h1 h2).no hk, h.apart, h.far⟩

theorem Grid.kept {S : Nat → Prop} {W W' : World} {base H : Nat} {t e : TypeId} {k : Nat} {vs : List Value} {xs : List (Nat × List Value)} (h : Grid W base H t e k vs xs) (hk : Kp S W W') (h1 : ¬ S H)
    (h2 : ∀ i (h : i < vs.length) g, (vs[i]'h).ownBlock = some g → ¬ S g) : Grid W' base H t e k vs xs :=
  ⟨hk.at h.head h1, h.len, fun i a b => (h.own i a b).kept hk (h2 i a), h.apart, h.far⟩

theorem Grid.cell {W : World} {base H : Nat} {t e : TypeId} {k : Nat} {vs : List Value} {xs : List (Nat × List Value)} (h : Grid W base H t e k vs xs) {i : Nat} (hi : i < vs.length) : W.cell? ⟨H, i, none⟩ = some (vs[i]'hi) :=
  blk_cell h.head i _ (by simp [hi])
theorem Grid.frozen {W : World} {base H : Nat} {t e : TypeId} {k : Nat} {vs : List Value} {xs : List (Nat × List Value)} (h : Grid W base H t e k vs xs) (i : Nat) : W.frozen? ⟨H, i, none⟩ = false := blk_frozen h.head i

/-- The i-th row is appended to, and put back. -/
theorem Grid.put {W W1 : World} {base H : Nat} {t e : TypeId} {k : Nat} {vs : List Value} {xs : List (Nat × List Value)} (h : Grid W base H t e k vs xs) {i : Nat} (hi : i < vs.length) {v' : Value} {x' : Nat × List Value}
    (hk : Kp (fun g => (vs[i]'hi).ownBlock = some g) W W1) (ho : OwnK W1 base e k v' x'.1 x'.2) (hw : v'.ownBlock = (vs[i]'hi).ownBlock ∨ v'.ownBlock = some W.heap.size) :
    Grid (W1.setCell ⟨H, i, none⟩ v') base H t e k (vs.set i v') (xs.set i x') := by
  have hH := blk_lt h.head
  have hHf : ¬ (vs[i]'hi).ownBlock = some H := h.far i hi
  have hs : Kp (fun g => g = H) W1 (W1.setCell ⟨H, i, none⟩ v') := (Kp.refl (fun g => g = H) W1).setCell (p := ⟨H, i, none⟩) (.inl rfl) v'
  have hnew : ∀ g, v'.ownBlock = some g → g ≠ H := fun g hg e => by
    subst e
    rcases hw with h1 | h1
    · rw [h1] at hg; exact hHf hg
    · rw [h1] at hg; have := Option.some.inj hg; omega
  refine ⟨?_, by simp [h.len], ?_, ?_, ?_⟩
  · have := blk_setCell (hk.at h.head hHf) i v'
    rw [this]
    simp
  · intro j h1 h2
    simp only [List.length_set] at h1 h2
    by_cases hj : i = j
    · subst hj
      simp only [List.getElem_set_self]
      exact ho.kept hs hnew
    · rw [List.getElem_set_ne hj, List.getElem_set_ne hj]
      refine ((h.own j h1 h2).kept hk (fun g hg e => h.apart j i h1 hi g (fun e => hj e.symm) hg e)).kept hs (fun g hg e => ?_)
      subst e
      exact h.far j h1 hg
  · intro a b h1 h2 g hab hg hg'
    simp only [List.length_set] at h1 h2
    have hlt : ∀ j (hj : j < vs.length) g, (vs[j]'hj).ownBlock = some g → g < W.heap.size := fun j hj g hg => ((h.own j hj (by rw [← h.len]; exact hj)).block hg).2
    by_cases ha : i = a
    · subst ha
      rw [List.getElem_set_self] at hg
      rw [List.getElem_set_ne hab] at hg'
      rcases hw with e | e
      · rw [e] at hg; exact h.apart i b hi h2 g hab hg hg'
      · rw [e] at hg; have := Option.some.inj hg; have := hlt b h2 g hg'; omega
    · rw [List.getElem_set_ne ha] at hg
      by_cases hb : i = b
      · subst hb
        rw [List.getElem_set_self] at hg'
        rcases hw with e | e
        · rw [e] at hg'; exact h.apart a i h1 hi g hab hg hg'
        · rw [e] at hg'; have := Option.some.inj hg'; have := hlt a h1 g hg; omega
      · rw [List.getElem_set_ne hb] at hg'
        exact h.apart a b h1 h2 g hab hg hg'
  · intro j h1 hg
    simp only [List.length_set] at h1
    by_cases hj : i = j
    · subst hj
      rw [List.getElem_set_self] at hg
      exact hnew H hg rfl
    · rw [List.getElem_set_ne hj] at hg
      exact h.far j h1 hg

/-- A new block of nil rows. -/
theorem Grid.new (w : World) (base : Nat) (t e : TypeId) (k n : Nat) : Grid (w.alloc (.cells (Array.replicate n (.slice none 0 0)) t)) base w.heap.size t e k (List.replicate n (.slice none 0 0)) (List.replicate n (0, [])) :=
  ⟨by rw [List.toArray_replicate]; exact blk_new w _, by simp, fun i h h' => by simp only [List.getElem_replicate]; exact OwnK.nil _ _ _ _,
    fun i j h h' g hij hg => by simp [Value.ownBlock] at hg, fun i h => by simp [Value.ownBlock]⟩
/-- What 'make([][]E, n)' gives. -/
theorem Grid.made {w w' : World} (base : Nat) {t : TypeId} (e : TypeId) (k : Nat) {n : Nat} {z : Value} (hz : z = .slice none 0 0) (h : w'.ownsRow w.heap.size t 1 (.slice (some ⟨w.heap.size, 0, none⟩) n n) n (madeCells z.cells (n * 1)).toList) :
    Grid w' base w.heap.size t e k (List.replicate n (.slice none 0 0)) (List.replicate n (0, [])) := by
  subst hz
  have hm : (madeCells (Value.slice none 0 0).cells (n * 1)).toList = List.replicate n (Value.slice none 0 0) := by
    apply List.ext_getElem (by simp [madeCells])
    intro i h1 h2
    simp [madeCells, Value.cells, Nat.mod_one]
  rw [hm] at h
  rcases h.2 with ⟨h0, -⟩ | ⟨g, cap, cur, hv, hb, hg, hn, hmx, hs, ht⟩
  · cases h0
  · cases hv
    have hc : cur = (List.replicate n (Value.slice none 0 0)).toArray := by
      rw [List.take_of_length_le (by rw [Array.length_toList, hs]; exact Nat.le_refl _)] at ht
      rw [← ht]
    rw [hc] at hg
    exact ⟨hg, by simp, fun i h h' => by simp only [List.getElem_replicate]; exact OwnK.nil _ _ _ _,
      fun i j h h' g hij hg => by simp [Value.ownBlock] at hg, fun i h => by simp [Value.ownBlock]⟩
end Go.Proofs.Ytamhlmfcnnomgaa
