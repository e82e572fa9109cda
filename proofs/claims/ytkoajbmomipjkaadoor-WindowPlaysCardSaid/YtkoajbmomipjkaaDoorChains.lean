/- The bits of a mask, in order: what was met is told by them. -/
import Derived.Test.YtkoajbmomipjkaaDoorWin
namespace Go.Proofs.YtkoajbmomipjkaaDoor
set_option linter.unusedVariables false

theorem xor_bit {x : BitVec 64} {i : Nat} (hi : i < 64) (k : Nat) : (x ^^^ (1#64 <<< i)).getLsbD k = if k = i then !x.getLsbD k else x.getLsbD k := by
  simp only [BitVec.getLsbD_xor, BitVec.getLsbD_shiftLeft, BitVec.getLsbD_one]
  by_cases h : k = i
  · subst h; simp [hi]
  · rw [if_neg h]
    by_cases h2 : k < i
    · simp [h2]
    · have : ¬ (k - i = 0) := by omega
      simp [this]

theorem Chain.mem {x : BitVec 64} {l : List Nat} (h : Chain x l) : ∀ k, k ∈ l ↔ x.getLsbD k = true := by
  induction h with
  | nil => intro k; simp
  | @cons x i l h1 _ ih =>
    intro k
    rw [List.mem_cons, ih k, xor_bit h1.1]
    by_cases e : k = i
    · subst e; simp [h1.2.1]
    · simp [e]

theorem Chain.sorted {x : BitVec 64} {l : List Nat} (h : Chain x l) : l.Pairwise (· < ·) := by
  induction h with
  | nil => exact .nil
  | @cons x i l h1 h2 ih =>
    refine .cons (fun k hk => ?_) ih
    have hb := (h2.mem k).1 hk
    rw [xor_bit h1.1] at hb
    by_cases e : k = i
    · subst e; rw [if_pos rfl, h1.2.1] at hb; cases hb
    · rw [if_neg e] at hb
      rcases Nat.lt_or_ge k i with h3 | h3
      · rw [h1.2.2 k h3] at hb; cases hb
      · omega

/-- All bits are met ahead of n: n was met just if it lies below next. -/
theorem met_end {N n : Nat} {x : BitVec 64} {l : List Nat} (h : Chain x l) (hall : ∀ i ∈ l, N + 1 + i < n) : metM N x n = decide (n < N) := by
  unfold metM
  cases hb : x.getLsbD (n - N - 1) with
  | false => simp
  | true =>
    have hm := (h.mem _).2 hb
    have := hall _ hm
    have : ¬ N < n ∨ n < N := by omega
    by_cases h1 : N < n
    · omega
    · simp [h1]

/-- The first bit that is not ahead of n says it. -/
theorem met_at {N n : Nat} {x : BitVec 64} {l : List Nat} (h : Chain x l) {k : Nat} (hk : k < l.length) (hall : ∀ j (hj : j < l.length), j < k → N + 1 + l[j] < n) (hge : n ≤ N + 1 + l[k]) :
    metM N x n = (decide (n < N) || decide (N + 1 + l[k] = n)) := by
  unfold metM
  congr 1
  by_cases h1 : N < n
  · by_cases h2 : N + 1 + l[k] = n
    · have e : n - N - 1 = l[k] := by omega
      have hb := (h.mem l[k]).1 (List.getElem_mem hk)
      rw [e, hb]; simp [h1, h2]
    · rw [decide_eq_false h2]
      cases hb : x.getLsbD (n - N - 1) with
      | false => simp
      | true =>
        have hm := (h.mem _).2 hb
        obtain ⟨j, hj, e⟩ := List.getElem_of_mem hm
        rcases Nat.lt_trichotomy j k with h3 | h3 | h3
        · have := hall j hj h3; omega
        · subst h3; omega
        · have := List.pairwise_iff_getElem.1 h.sorted k j hk hj h3
          omega
  · have : ¬ (N + 1 + l[k] = n) := by omega
    simp [h1, this]
end Go.Proofs.YtkoajbmomipjkaaDoor
