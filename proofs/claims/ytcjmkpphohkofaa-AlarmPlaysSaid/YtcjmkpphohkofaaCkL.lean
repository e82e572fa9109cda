/- Clocks, as lists: plain laws. -/
import Derived.Test.YtcjmkpphohkofaaClk
namespace Go.Proofs.Ytcjmkpphohkofaa
set_option linter.unusedVariables false

def hasK (l : List Al) (k : Int) : Bool := l.any fun x => decide (x.key = k)
def insK (l : List Al) (k a : Int) : List Al := (l.filter fun x => decide (x.key < k)) ++ ⟨k, a, a, 0⟩ :: l.filter fun x => !decide (x.key < k)
def dropK (l : List Al) (k : Int) : List Al := l.filter fun x => !decide (x.key = k)
def fromK (l : List Al) (k : Int) : List Al := l.filter fun x => !decide (x.key < k)
def calmA (k a : Int) (x : Al) : Al := if x.key = k then ⟨x.key, a, a, x.rung⟩ else x
def calmK (l : List Al) (k a : Int) : List Al := l.map (calmA k a)
/-- The alarm of a key; one of nothing, if there is none. -/
def theK (l : List Al) (k : Int) : Al := (l.find? fun x => decide (x.key = k)).getD ⟨0, 0, 0, 0⟩

theorem hasK_iff {l : List Al} {k : Int} : hasK l k = true ↔ ∃ x ∈ l, x.key = k := by simp [hasK]
theorem hasK_no {l : List Al} {k : Int} : hasK l k = false ↔ ∀ x ∈ l, x.key ≠ k := by simp [hasK]
theorem cut_parts {l : List Al} {k : Int} {i : Nat} (c : Cut l k i i) : (∀ x ∈ l.take i, x.key < k) ∧ ∀ x ∈ l.drop i, k ≤ x.key := by
  obtain ⟨-, c2, c3, c4⟩ := c
  constructor
  · intro x hx
    obtain ⟨j, hj, rfl⟩ := List.getElem_of_mem hx
    rw [List.length_take] at hj
    have := c3 j (by omega)
    rw [keyAt_eq l (by omega)] at this
    simpa using this
  · intro x hx
    obtain ⟨j, hj, rfl⟩ := List.getElem_of_mem hx
    rw [List.length_drop] at hj
    have := c4 (i + j) (by omega) (by omega)
    rw [keyAt_eq l (by omega)] at this
    simpa using this
theorem filter_all {α : Type} {p : α → Bool} {l : List α} (h : ∀ x ∈ l, p x = true) : l.filter p = l := List.filter_eq_self.2 h
theorem filter_none {α : Type} {p : α → Bool} {l : List α} (h : ∀ x ∈ l, p x = false) : l.filter p = [] := List.filter_eq_nil_iff.2 fun x hx => by rw [h x hx]; simp
theorem cut_take {l : List Al} {k : Int} {i : Nat} (c : Cut l k i i) : l.take i = (l.filter fun x => decide (x.key < k)) ∧ l.drop i = l.filter fun x => !decide (x.key < k) := by
  obtain ⟨h1, h2⟩ := cut_parts c
  have e : l = l.take i ++ l.drop i := (List.take_append_drop i l).symm
  constructor
  · conv => rhs; rw [e]
    rw [List.filter_append, filter_all fun x hx => by simpa using h1 x hx, filter_none fun x hx => by simpa using h2 x hx, List.append_nil]
  · conv => rhs; rw [e]
    rw [List.filter_append, filter_none fun x hx => by simpa using h1 x hx, filter_all fun x hx => by simpa using h2 x hx, List.nil_append]
theorem cut_hit {l : List Al} {k : Int} {i : Nat} (hs : Srt l) (c : Cut l k i i) : hit l k i = hasK l k := by
  obtain ⟨-, c2, c3, c4⟩ := c
  cases h : hasK l k with
  | true =>
    obtain ⟨x, hx, e⟩ := hasK_iff.1 h
    obtain ⟨j, hj, rfl⟩ := List.getElem_of_mem hx
    rw [← keyAt_eq l hj] at e
    have h1 : ¬ j < i := fun h => by have := c3 j h; omega
    have h2 : j = i := by
      rcases Nat.lt_or_ge i j with h | h
      · have h3 := hs.lt h hj
        have h4 := c4 i (Nat.le_refl _) (by omega)
        omega
      · omega
    subst h2
    exact decide_eq_true ⟨hj, e⟩
  | false =>
    have h0 := hasK_no.1 h
    refine decide_eq_false fun ⟨h1, h2⟩ => ?_
    rw [keyAt_eq l h1] at h2
    exact h0 _ (List.getElem_mem h1) h2
theorem Srt.ne {l : List Al} (hs : Srt l) {i j : Nat} (hi : i < l.length) (hj : j < l.length) (h : (l[i]'hi).key = (l[j]'hj).key) : i = j := by
  rcases Nat.lt_trichotomy i j with h1 | h1 | h1
  · have := hs.lt h1 hj
    rw [keyAt_eq l hi, keyAt_eq l hj] at this; omega
  · exact h1
  · have := hs.lt h1 hi
    rw [keyAt_eq l hi, keyAt_eq l hj] at this; omega
theorem split_at {α : Type} (l : List α) {i : Nat} (hi : i < l.length) : l = l.take i ++ l[i]'hi :: l.drop (i + 1) := by rw [← List.drop_eq_getElem_cons hi, List.take_append_drop]
/-- Those beside the place i have other keys. -/
theorem beside {l : List Al} (hs : Srt l) {i : Nat} (hi : i < l.length) {k : Int} (hk : (l[i]'hi).key = k) : (∀ x ∈ l.take i, x.key ≠ k) ∧ ∀ x ∈ l.drop (i + 1), x.key ≠ k := by
  subst hk
  constructor
  · intro x hx e
    obtain ⟨j, hj, rfl⟩ := List.getElem_of_mem hx
    rw [List.length_take] at hj
    have := hs.ne (i := j) (j := i) (by omega) hi (by simpa using e)
    omega
  · intro x hx e
    obtain ⟨j, hj, rfl⟩ := List.getElem_of_mem hx
    rw [List.length_drop] at hj
    have := hs.ne (i := i + 1 + j) (j := i) (by omega) hi (by simpa using e)
    omega
theorem hit_at {l : List Al} {k : Int} {i : Nat} (h : hit l k i = true) : ∃ hi : i < l.length, (l[i]'hi).key = k := by
  obtain ⟨h1, h2⟩ := of_decide_eq_true h
  exact ⟨h1, by rw [← keyAt_eq l h1]; exact h2⟩
theorem erase_at {l : List Al} {k : Int} {i : Nat} (hs : Srt l) (h : hit l k i = true) : l.take i ++ l.drop (i + 1) = dropK l k := by
  obtain ⟨hi, hk⟩ := hit_at h
  obtain ⟨h1, h2⟩ := beside hs hi hk
  unfold dropK
  conv => rhs; rw [split_at l hi]
  rw [List.filter_append, List.filter_cons, filter_all fun x hx => by simpa using h1 x hx, filter_all fun x hx => by simpa using h2 x hx]
  simp [hk]
theorem calm_at {l : List Al} {k a : Int} {i : Nat} (hs : Srt l) (h : hit l k i = true) : ∃ hi : i < l.length, l.set i ⟨(l[i]'hi).key, a, a, (l[i]'hi).rung⟩ = calmK l k a := by
  obtain ⟨hi, hk⟩ := hit_at h
  obtain ⟨h1, h2⟩ := beside hs hi hk
  refine ⟨hi, ?_⟩
  have hm : ∀ l' : List Al, (∀ x ∈ l', x.key ≠ k) → l'.map (calmA k a) = l' := fun l' h => List.map_congr_left (g := id) (fun x hx => by unfold calmA; rw [if_neg (h x hx)]; rfl) |>.trans (List.map_id _)
  unfold calmK
  conv => rhs; rw [split_at l hi]
  rw [List.map_append, List.map_cons, hm _ h1, hm _ h2, List.set_eq_take_append_cons_drop, if_pos hi]
  unfold calmA
  rw [if_pos hk]
theorem the_at {l : List Al} {k : Int} {i : Nat} (hs : Srt l) (h : hit l k i = true) : ∃ hi : i < l.length, l[i]'hi = theK l k := by
  obtain ⟨hi, hk⟩ := hit_at h
  obtain ⟨h1, h2⟩ := beside hs hi hk
  refine ⟨hi, ?_⟩
  unfold theK
  conv => rhs; rw [split_at l hi]
  rw [List.find?_append, List.find?_eq_none.2 fun x hx => by simpa using h1 x hx, List.find?_cons_of_pos (by simpa using hk)]
  rfl
theorem the_no {l : List Al} {k : Int} (h : hasK l k = false) : theK l k = ⟨0, 0, 0, 0⟩ := by
  unfold theK
  rw [List.find?_eq_none.2 fun x hx => by simpa using hasK_no.1 h x hx]
  rfl
theorem the_mem {l : List Al} {k : Int} (h : hasK l k = true) : theK l k ∈ l ∧ (theK l k).key = k := by
  unfold theK
  cases hf : l.find? fun x => decide (x.key = k) with
  | none =>
    obtain ⟨x, hx, e⟩ := hasK_iff.1 h
    exact absurd e (by simpa using List.find?_eq_none.1 hf x hx)
  | some x => exact ⟨List.mem_of_find?_eq_some hf, by simpa using List.find?_some hf⟩

theorem Srt.filter {l : List Al} (hs : Srt l) (p : Al → Bool) : Srt (l.filter p) := List.Pairwise.sublist List.filter_sublist hs
theorem Srt.map {l : List Al} (hs : Srt l) {f : Al → Al} (h : ∀ x, (f x).key = x.key) : Srt (l.map f) := List.pairwise_map.2 (List.Pairwise.imp (fun {a b} hab => by rw [h, h]; exact hab) hs)
theorem Srt.ins {l : List Al} (hs : Srt l) {k : Int} (a : Int) (hn : hasK l k = false) : Srt (insK l k a) := by
  have h0 := hasK_no.1 hn
  have hg : ∀ x ∈ l.filter (fun x => !decide (x.key < k)), k < x.key := fun x hx => by
    obtain ⟨h1, h2⟩ := List.mem_filter.1 hx
    have := h0 x h1
    have : k ≤ x.key := by simpa using h2
    omega
  have hl : ∀ x ∈ l.filter (fun x => decide (x.key < k)), x.key < k := fun x hx => by simpa using (List.mem_filter.1 hx).2
  refine List.pairwise_append.2 ⟨hs.filter _, List.pairwise_cons.2 ⟨fun x hx => hg x hx, hs.filter _⟩, fun x hx y hy => ?_⟩
  have h1 := hl x hx
  rcases List.mem_cons.1 hy with rfl | hy
  · exact h1
  · have := hg y hy; omega
theorem insK_mem {l : List Al} {k a : Int} {x : Al} (h : x ∈ insK l k a) : x = ⟨k, a, a, 0⟩ ∨ x ∈ l := by
  unfold insK at h
  rcases List.mem_append.1 h with h | h
  · exact .inr ((List.mem_filter.1 h).1)
  · rcases List.mem_cons.1 h with h | h
    · exact .inl h
    · exact .inr ((List.mem_filter.1 h).1)
theorem insK_length (l : List Al) (k a : Int) : (insK l k a).length = l.length + 1 := by
  have : (l.filter fun x => decide (x.key < k)).length + (l.filter fun x => !decide (x.key < k)).length = l.length := by
    induction l with
    | nil => rfl
    | cons x l ih => by_cases h : x.key < k <;> simp [h] at ih ⊢ <;> omega
  unfold insK
  rw [List.length_append, List.length_cons]
  omega

theorem CkOk.ins {R : Int} {s : Ck} (h : CkOk R s) (hR : 0 ≤ R) {k : Int} (hk : u64k k) (hn : hasK s.l k = false) (hl : s.l.length < 256) : CkOk R { s with l := insK s.l k s.a } := by
  obtain ⟨h1, h2, h3, h4, h5⟩ := h
  refine ⟨h1, h2, by rw [insK_length]; exact hl, h4.ins _ hn, fun x hx => ?_⟩
  rcases insK_mem hx with rfl | hx
  · exact ⟨hk, h1, h1, ⟨Int.le_refl _, hR⟩⟩
  · exact h5 x hx
theorem CkOk.filter {R : Int} {s : Ck} (h : CkOk R s) (p : Al → Bool) : CkOk R { s with l := s.l.filter p } :=
  ⟨h.a, h.b, Nat.le_trans (List.length_filter_le _ _) h.len, h.srt.filter p, fun x hx => h.all x ((List.mem_filter.1 hx).1)⟩
theorem calmA_key (k a : Int) (x : Al) : (calmA k a x).key = x.key := by
  unfold calmA
  split
  · rfl
  · rfl
theorem CkOk.calm {R : Int} {s : Ck} (h : CkOk R s) (k : Int) : CkOk R { s with l := calmK s.l k s.a } := by
  refine ⟨h.a, h.b, by simpa [calmK] using h.len, h.srt.map (calmA_key k s.a), fun y hy => ?_⟩
  obtain ⟨x, hx, rfl⟩ := List.mem_map.1 hy
  have := h.all x hx
  unfold calmA
  split
  · exact ⟨this.key, h.a, h.a, this.rung⟩
  · exact this
end Go.Proofs.Ytcjmkpphohkofaa
