/- A slice of slices as one piece of memory: a block of headers, each row the call's own, all apart from each other. Nothing here names the program. -/
import Derived.Test.YtamhlmfcnnomgaaSL
import Derived.Test.YtamhlmfcnnomgaaReg
namespace Go.Proofs.Ytamhlmfcnnomgaa
open Go.RowKit
set_option linter.unusedVariables false

section
variable {α : Type}
/-- A row: its slice, and what it holds. -/
def rowP (e : TypeId) (k : Nat) (f : α → List Value) (q : Value × List α) : Pc := .own e k q.1 q.2.length (q.2.flatMap f)
def gridL (B : Nat) (t e : TypeId) (k : Nat) (f : α → List Value) (R : List (Value × List α)) : List Pc := .blk B (R.map (·.1)) t :: R.map (rowP e k f)
def gridG (B : Nat) (t e : TypeId) (k : Nat) (f : α → List Value) (R : List (Value × List α)) : Gp where
  foot b := ∃ p ∈ gridL B t e k f R, p.foot b
  says w := SL w (gridL B t e k f R)
  stays := fun w w' h os tape out size hb => SL.kept h fun p hp => ⟨os, tape, out, size, fun b hk _ => hb b ⟨p, hp, hk⟩⟩
  inn := fun w h b ⟨p, hp, hb⟩ => Pc.inn (h.all p hp) hb
variable {B : Nat} {t e : TypeId} {k : Nat} {f : α → List Value} {R : List (Value × List α)} {w : World} {L M M' : List Pc}
theorem SL.openG (h : SL w (.gen (gridG B t e k f R) :: L)) : SL w (gridL B t e k f R ++ L) := by
  have hs : SL w (gridL B t e k f R) := h.head
  refine ⟨fun p hp => ?_, List.pairwise_append.2 ⟨hs.apart, h.tail.apart, fun p hp q hq b hpb hqb => ?_⟩⟩
  · rcases List.mem_append.1 hp with h1 | h1
    · exact hs.all p h1
    · exact h.tail.all p h1
  · exact (List.pairwise_cons.1 h.apart).1 q hq b ⟨p, hp, hpb⟩ hqb
theorem SL.closeG (h : SL w (gridL B t e k f R ++ L)) : SL w (.gen (gridG B t e k f R) :: L) := by
  obtain ⟨h1, h2, h3⟩ := List.pairwise_append.1 h.apart
  refine ⟨fun p hp => ?_, List.pairwise_cons.2 ⟨fun q hq b hb hqb => ?_, h2⟩⟩
  · rcases List.mem_cons.1 hp with rfl | h4
    · exact ⟨fun p hp => h.all p (List.mem_append.2 (.inl hp)), h1⟩
    · exact h.all p (List.mem_append.2 (.inr h4))
  · obtain ⟨p, hp, hpb⟩ := hb
    exact h3 p hp q hq b hpb hqb
theorem grid_says (h : SL w M) (hp : Pull M (.gen (gridG B t e k f R)) M') : SL w (gridL B t e k f R) := h.all _ hp.mem
theorem grid_cell (h : SL w M) (hp : Pull M (.gen (gridG B t e k f R)) M') {i : Nat} (hi : i < R.length) : w.cell? ⟨B, i, none⟩ = some (R[i]'hi).1 :=
  (grid_says h hp).cell (.here _ _) (by simp [hi])
theorem grid_free (h : SL w M) (hp : Pull M (.gen (gridG B t e k f R)) M') (i : Nat) : w.frozen? ⟨B, i, none⟩ = false := (grid_says h hp).free (.here _ _) i
theorem grid_lt (h : SL w M) (hp : Pull M (.gen (gridG B t e k f R)) M') : B < w.heap.size := blk_lt (grid_says h hp).head
theorem grid_row (h : SL w M) (hp : Pull M (.gen (gridG B t e k f R)) M') {i : Nat} (hi : i < R.length) : OwnK w 0 e k (R[i]'hi).1 (R[i]'hi).2.length ((R[i]'hi).2.flatMap f) :=
  (grid_says h hp).all (rowP e k f (R[i]'hi)) (List.mem_cons_of_mem _ (List.mem_map.2 ⟨_, List.getElem_mem hi, rfl⟩))
theorem grid_perm {i : Nat} (hi : i < R.length) (x : Value × List α) : (gridL B t e k f (R.set i x)).Perm (rowP e k f x :: .blk B ((R.map (·.1)).set i x.1) t :: (R.eraseIdx i).map (rowP e k f)) := by
  unfold gridL
  rw [List.map_set]
  refine List.Perm.trans (List.Perm.cons _ ?_) (.swap _ _ _)
  have h : (R.set i x).Perm (x :: R.eraseIdx i) := by
    rw [List.set_eq_take_append_cons_drop, if_pos hi, List.eraseIdx_eq_take_drop_succ]
    exact List.perm_middle
  exact h.map (rowP e k f)
/-- A row is taken out, appended to, and its header stored. -/
theorem grid_app {P : Program} {tr ty : TypeId} {z : Value} {bytes : Nat} (E : ElemK P tr e k z bytes) (h : SL w (.gen (gridG B t e k f R) :: L)) {i : Nat} (hi : i < R.length) {a : Option Addr} {m c : Nat} (ys : List α)
    (hf : ∀ x, (f x).length = k) (hl : ys.length = m) (hy : Rd w a (ys.flatMap f).length (fun i => (ys.flatMap f).getD i undef)) (h1 : ∀ u ∈ ys.flatMap f, u.oneCell' = true)
    (h63 : (R[i]'hi).2.length + m ≤ maxLen) (hbytes : ((R[i]'hi).2.length + m) * bytes ≤ 140737488355328) (hnil : a = none → c = 0) :
    ∃ v' w', (Builtin.append_ #[tr, tr] ty #[(R[i]'hi).1, .slice a m c]).run P w = .ok v' w' ∧ (∀ j (hj : j < R.length), w'.cell? ⟨B, j, none⟩ = some (R[j]'hj).1) ∧ (∀ j, w'.frozen? ⟨B, j, none⟩ = false) ∧
      SL w' L ∧ (∀ j (hj : j < R.length), j ≠ i → OwnK w' 0 e k (R[j]'hj).1 (R[j]'hj).2.length ((R[j]'hj).2.flatMap f)) ∧
      SL (w'.setCell ⟨B, i, none⟩ v') (.gen (gridG B t e k f (R.set i (v', (R[i]'hi).2 ++ ys))) :: L) := by
  have hlen : ∀ l : List α, (l.flatMap f).length = l.length * k := fun l => by
    induction l with
    | nil => simp
    | cons x l ih => rw [List.flatMap_cons, List.length_append, ih, hf, List.length_cons, Nat.succ_mul]; omega
  have hself : R.set i (R[i]'hi) = R := by
    apply List.ext_getElem (by simp)
    intro j h1 h2
    by_cases hj : i = j
    · subst hj; simp
    · rw [List.getElem_set_ne hj]
  have hp := grid_perm (B := B) (t := t) (e := e) (k := k) (f := f) hi (R[i]'hi)
  rw [hself] at hp
  have ho := h.openG.perm (hp.append_right L)
  have hset : (R.map (·.1)).set i (R[i]'hi).1 = R.map (·.1) := by rw [← List.map_set, hself]
  rw [hset] at ho
  have ho' : SL w (.own e k (R[i]'hi).1 (R[i]'hi).2.length ((R[i]'hi).2.flatMap f) :: .blk B (R.map (·.1)) t :: ((R.eraseIdx i).map (rowP e k f) ++ L)) := ho
  obtain ⟨v', w', hr, h2, -⟩ := SL.appended (P := P) (ty := ty) E ho' (by rw [hlen, hl]) hy h1 h63 hbytes hnil
  refine ⟨v', w', hr, fun j hj => h2.cell (.there (.here _ _)) (by simp [hj]), fun j => h2.free (.there (.here _ _)) j, ?_, fun j hj hji => ?_, ?_⟩
  · have h3 := h2.tail.tail
    have hs : L.Sublist ((R.eraseIdx i).map (rowP e k f) ++ L) := List.sublist_append_right _ _
    exact ⟨fun q hq => h3.all q (hs.subset hq), h3.apart.sublist hs⟩
  · refine h2.all (rowP e k f (R[j]'hj)) (List.mem_cons_of_mem _ (List.mem_cons_of_mem _ (List.mem_append.2 (.inl (List.mem_map.2 ⟨_, ?_, rfl⟩)))))
    exact List.mem_eraseIdx_iff_getElem.2 ⟨j, hj, hji, rfl⟩
  · have h3 := (h2.pull (.there (.here _ _))).setCell i v'
    have h4 : SL (w'.setCell ⟨B, i, none⟩ v') (rowP e k f (v', (R[i]'hi).2 ++ ys) :: .blk B ((R.map (·.1)).set i v') t :: (R.eraseIdx i).map (rowP e k f) ++ L) := by
      have h5 := h3.perm (.swap _ _ _)
      unfold rowP
      dsimp only
      rw [List.length_append, List.flatMap_append, hl]
      exact h5
    have hp2 := grid_perm (B := B) (t := t) (e := e) (k := k) (f := f) hi (v', (R[i]'hi).2 ++ ys)
    exact (h4.perm ((hp2.append_right L).symm)).closeG
/-- What 'make([][]E, n)' gives. -/
theorem grid_made {n : Nat} (h : SL w (.own t 1 (.slice (some ⟨B, 0, none⟩) n n) n (List.replicate n (.slice none 0 0)) :: L)) : SL w (.gen (gridG B t e k f (List.replicate n (.slice none 0 0, []))) :: L) := by
  have ho : OwnK w 0 t 1 (.slice (some ⟨B, 0, none⟩) n n) n (List.replicate n (.slice none 0 0)) := h.head
  have hb : w.heap[B]? = some (.cells (List.replicate n (Value.slice none 0 0)).toArray t) := by
    rcases ho.2 with ⟨h0, -⟩ | ⟨g, cap, cur, hv, hb, hg, hn, hmx, hs, ht⟩
    · cases h0
    · cases hv
      have hc : cur = (List.replicate n (Value.slice none 0 0)).toArray := by
        rw [List.take_of_length_le (by rw [Array.length_toList, hs]; exact Nat.le_refl _)] at ht
        rw [← ht]
      rw [hc] at hg
      exact hg
  have hrow : ∀ p ∈ (List.replicate n ((Value.slice none 0 0, []) : Value × List α)).map (rowP e k f), p = .own e k (.slice none 0 0) 0 [] := fun p hp => by
    obtain ⟨q, hq, rfl⟩ := List.mem_map.1 hp
    rw [List.eq_of_mem_replicate hq]
    rfl
  have hnf : ∀ b, ¬ (Pc.own e k (.slice none 0 0) 0 []).foot b := fun b hb => by cases hb
  refine SL.closeG ⟨fun p hp => ?_, List.pairwise_append.2 ⟨List.pairwise_cons.2 ⟨fun q hq b _ hqb => ?_, ?_⟩, h.tail.apart, fun p hp q hq b hpb hqb => ?_⟩⟩
  · rcases List.mem_append.1 hp with h1 | h1
    · rcases List.mem_cons.1 h1 with rfl | h2
      · show w.heap[B]? = _
        rw [hb]; simp
      · rw [hrow p h2]; exact OwnK.nil w 0 e k
    · exact h.tail.all p h1
  · rw [hrow q hq] at hqb; exact hnf b hqb
  · exact List.pairwise_iff_getElem.2 fun i j hi hj hij b hb _ => by
      have := hrow _ (List.getElem_mem hi)
      rw [this] at hb; exact hnf b hb
  · rcases List.mem_cons.1 hp with rfl | h2
    · have : b = B := hpb
      subst this
      exact (List.pairwise_cons.1 h.apart).1 q hq b rfl hqb
    · rw [hrow p h2] at hpb; exact hnf b hpb
end
end Go.Proofs.Ytamhlmfcnnomgaa
