/- The numbers that were not met, below one that was. -/
import Derived.Test.YtkoajbmomipjkaaDoorChains
namespace Go.Proofs.YtkoajbmomipjkaaDoor
set_option linter.unusedVariables false

/-- Where one stands, and what was told, behind some bits. -/
def holeF (N : Nat) (l : List Nat) : Nat × List Nat := l.foldl (fun s i => (N + 1 + i + 1, s.2 ++ List.range' s.1 (N + 1 + i - s.1))) (N, [])

theorem holeF_take {N : Nat} {l : List Nat} {i : Nat} (hi : i < l.length) :
    holeF N (l.take (i + 1)) = (N + 1 + l[i] + 1, (holeF N (l.take i)).2 ++ List.range' (holeF N (l.take i)).1 (N + 1 + l[i] - (holeF N (l.take i)).1)) := by
  unfold holeF
  rw [List.take_succ_eq_append_getElem hi, List.foldl_append]
  rfl

theorem range_split {N a m : Nat} (h1 : N ≤ a) (h2 : a ≤ m) : List.range' N (m + 1 - N) = List.range' N (a - N) ++ (List.range' a (m - a) ++ [m]) := by
  have e1 : m + 1 - N = (a - N) + ((m - a) + 1) := by omega
  have e2 : N + (a - N) = a := by omega
  have e3 : a + (m - a) = m := by omega
  rw [e1, ← List.range'_append_1, e2, ← List.range'_append_1, e3]
  rfl

theorem holeF_spec {N : Nat} {x : BitVec 64} {l : List Nat} (h : Chain x l) : ∀ i, i ≤ l.length →
    N ≤ (holeF N (l.take i)).1 ∧ (∀ (hi : i < l.length), (holeF N (l.take i)).1 ≤ N + 1 + l[i]) ∧ (holeF N (l.take i)).1 ≤ N + 65 ∧
    (∀ j (hj : j < l.length), j < i → N + 1 + l[j] < (holeF N (l.take i)).1) ∧ (0 < i → metM N x ((holeF N (l.take i)).1 - 1) = true ∧ N < (holeF N (l.take i)).1) ∧
    (holeF N (l.take i)).2 = (List.range' N ((holeF N (l.take i)).1 - N)).filter (fun n => !metM N x n)
  | 0, _ => by
    refine ⟨by simp [holeF], fun hi => by simp [holeF]; omega, by simp [holeF], fun j hj h => by omega, fun h => by omega, by simp [holeF]⟩
  | i + 1, hi => by
    have hil : i < l.length := by omega
    obtain ⟨a1, a2, a3, a4, a6, a5⟩ := holeF_spec h i (by omega)
    have a2 := a2 hil
    rw [holeF_take hil]
    dsimp only
    have h64 := h.lt _ (List.getElem_mem hil)
    have hm : metM N x (N + 1 + l[i]) = true := by
      have hb := (h.mem l[i]).1 (List.getElem_mem hil)
      unfold metM
      have e : N + 1 + l[i] - N - 1 = l[i] := by omega
      rw [e, hb, decide_eq_true (by omega : N < N + 1 + l[i])]
      simp
    refine ⟨by omega, fun h2 => ?_, by omega, fun j hj hji => ?_, fun _ => ⟨by simpa using hm, by omega⟩, ?_⟩
    · have := List.pairwise_iff_getElem.1 h.sorted i (i + 1) hil h2 (by omega)
      omega
    · rcases Nat.lt_or_ge j i with h3 | h3
      · have := a4 j hj h3; omega
      · obtain rfl : j = i := by omega
        omega
    · rw [range_split a1 a2, List.filter_append, List.filter_append, ← a5]
      have e1 : [N + 1 + l[i]].filter (fun n => !metM N x n) = [] := by simp [hm]
      have e2 : (List.range' (holeF N (l.take i)).1 (N + 1 + l[i] - (holeF N (l.take i)).1)).filter (fun n => !metM N x n) = List.range' (holeF N (l.take i)).1 (N + 1 + l[i] - (holeF N (l.take i)).1) := by
        rw [List.filter_eq_self]
        intro n hn
        rw [List.mem_range'_1] at hn
        have := met_at (N := N) (n := n) h hil (fun j hj hji => by have := a4 j hj hji; omega) (by omega)
        rw [this, decide_eq_false (by omega : ¬ n < N), decide_eq_false (by omega : ¬ N + 1 + l[i] = n)]
        rfl
      rw [e1, e2, List.append_nil]

/-- The holes of a window: where they end, and which they are. -/
noncomputable def topM (N : Nat) (x : BitVec 64) : Nat := (holeF N (Classical.choose (chain_ex x))).1
noncomputable def holesM (N : Nat) (x : BitVec 64) : List Nat := (holeF N (Classical.choose (chain_ex x))).2

theorem holes_spec (N : Nat) (x : BitVec 64) : holesM N x = (List.range' N (topM N x - N)).filter (fun n => !metM N x n) ∧ N ≤ topM N x ∧ topM N x ≤ N + 65 ∧
    (∀ k, topM N x ≤ k → metM N x k = false) ∧ (topM N x = N ∨ N < topM N x ∧ metM N x (topM N x - 1) = true) ∧ (topM N x = N ↔ x = 0#64) := by
  have hl := Classical.choose_spec (chain_ex x)
  unfold holesM topM
  generalize Classical.choose (chain_ex x) = l at *
  obtain ⟨a1, -, a3, a4, a6, a5⟩ := holeF_spec (N := N) hl l.length (Nat.le_refl _)
  rw [List.take_length] at a1 a3 a4 a5 a6
  refine ⟨a5, a1, a3, fun k hk => ?_, ?_, ?_⟩
  · rw [met_end hl (fun i hi => ?_)]
    · exact decide_eq_false (by omega)
    · obtain ⟨j, hj, rfl⟩ := List.getElem_of_mem hi
      have := a4 j hj hj; omega
  · rcases Nat.eq_zero_or_pos l.length with h0 | h0
    · left
      rw [List.eq_nil_of_length_eq_zero h0]; rfl
    · right
      exact ⟨(a6 h0).2, (a6 h0).1⟩
  · constructor
    · intro h
      rcases Nat.eq_zero_or_pos l.length with h0 | h0
      · rw [List.eq_nil_of_length_eq_zero h0] at hl
        cases hl; rfl
      · have := (a6 h0).2; omega
    · rintro rfl
      rw [hl.zero]; rfl
end Go.Proofs.YtkoajbmomipjkaaDoor
