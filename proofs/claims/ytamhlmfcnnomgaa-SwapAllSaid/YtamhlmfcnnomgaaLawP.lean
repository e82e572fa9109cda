/- The plain law of swap's pairs: all moves by rounds; what each one hears. Nothing here names the program. -/
import Derived.Test.YtamhlmfcnnomgaaLaw
import Derived.Test.YtamhlmfcnnomgaaAll
namespace Go.Proofs.Ytamhlmfcnnomgaa

theorem movesOf_rd (mode p s r : Nat) : ∀ m ∈ movesOf mode p s r, m.rd = r := fun m h => (pre_fr mode p s r p m h).2
theorem allPre_rd (mode p s k : Nat) : ∀ m ∈ allPre mode p s k, m.rd < k := by
  intro m h
  obtain ⟨r, hr, h⟩ := List.mem_flatMap.1 h
  have := movesOf_rd mode p s r m h
  have := List.mem_range.1 hr
  omega
theorem allPre_rest (mode p s k n : Nat) : ∃ R, allPre mode p s (k + n) = allPre mode p s k ++ R ∧ ∀ m ∈ R, k ≤ m.rd := by
  induction n with
  | zero => exact ⟨[], by simp, fun m h => (by cases h)⟩
  | succ n ih =>
    obtain ⟨R, h1, h2⟩ := ih
    refine ⟨R ++ movesOf mode p s (k + n), by rw [← Nat.add_assoc, allPre_succ, h1, List.append_assoc], fun m hm => ?_⟩
    rcases List.mem_append.1 hm with h | h
    · exact h2 m h
    · have := movesOf_rd mode p s (k + n) m h; omega
theorem all_split (mode p s r : Nat) (hr : r < roundsOf mode p) : ∃ R, allOf mode p s = allPre mode p s r ++ (movesOf mode p s r ++ R) ∧ ∀ m ∈ R, r < m.rd := by
  obtain ⟨R, h1, h2⟩ := allPre_rest mode p s (r + 1) (roundsOf mode p - (r + 1))
  refine ⟨R, ?_, fun m hm => h2 m hm⟩
  unfold allOf
  rw [show roundsOf mode p = r + 1 + (roundsOf mode p - (r + 1)) by omega, h1, allPre_succ, List.append_assoc]

/-- What each one has heard. -/
def heardOne (j : Nat) (done : List Mv) : List Mv := done.filter fun m => (m.to : Int) == (j : Int)
def heardX (p : Nat) (done : List Mv) : List (Nat × List Value) := (List.range p).map fun j => ((heardOne j done).length, mvs (heardOne j done))
theorem heardX_len (p : Nat) (done : List Mv) : (heardX p done).length = p := by simp [heardX]
theorem heardX_at (p : Nat) (done : List Mv) (j : Nat) (h : j < p) : (heardX p done)[j]'(by rw [heardX_len]; exact h) = ((heardOne j done).length, mvs (heardOne j done)) := by simp [heardX]
theorem heardX_nil (p : Nat) : heardX p [] = List.replicate p (0, []) := by
  apply List.ext_getElem (by simp [heardX])
  intro i h1 h2
  simp [heardX, heardOne, mvs]
theorem heardX_add (p : Nat) (done : List Mv) (m : Mv) : heardX p (done ++ [m]) = (heardX p done).set m.to ((heardOne m.to done).length + 1, mvs (heardOne m.to done) ++ mvs [m]) := by
  apply List.ext_getElem (by simp [heardX])
  intro i h1 h2
  have hip : i < p := by simpa [heardX] using h1
  rw [heardX_at p _ i hip]
  by_cases h : m.to = i
  · subst h
    rw [List.getElem_set_self]
    have : heardOne m.to (done ++ [m]) = heardOne m.to done ++ [m] := by simp [heardOne, List.filter_append]
    rw [this, List.length_append, mvs_app]
    rfl
  · rw [List.getElem_set_ne h, heardX_at p _ i hip]
    have : heardOne i (done ++ [m]) = heardOne i done := by
      unfold heardOne
      rw [List.filter_append, filter_none (l := [m]) (fun x hx => by rw [List.mem_singleton] at hx; subst hx; simp; omega), List.append_nil]
    rw [this]
theorem ways_lt {mode p r fr f m : Nat} (h1 : 1 ≤ p) (hr : r < roundsOf mode p) (hfr : fr < p) (h : ways mode p r fr = some (f, m)) : f + m ≤ p := by
  unfold ways at h
  by_cases h2 : mode = 2
  · rw [if_pos h2] at h; cases h; omega
  · rw [if_neg h2] at h
    by_cases h3 : r = 0 ∧ qOf p ≤ fr
    · rw [if_pos h3] at h; cases h
      have := qOf_pos p; omega
    · rw [if_neg h3] at h
      by_cases h4 : 0 < r ∧ fr < qOf p
      · rw [if_pos h4] at h; cases h
        have h5 : fr ^^^ 2 ^ (r - 1) < 2 ^ Nat.log2 p := by
          refine Nat.xor_lt_two_pow h4.2 ?_
          refine Nat.pow_lt_pow_right (by omega) ?_
          unfold roundsOf at hr
          rw [if_neg h2] at hr
          omega
        have h6 := qOf_le h1
        have h7 : fr ^^^ 2 ^ (r - 1) < qOf p := h5
        omega
      · rw [if_neg h4] at h; cases h
theorem mvFrom_to {mode p s r i : Nat} (h1 : 1 ≤ p) (hr : r < roundsOf mode p) (hi : i < p) : ∀ m ∈ mvFrom mode p s r i, m.to < p := by
  intro m h
  unfold mvFrom at h
  split at h
  · cases h
  · rename_i f k hw
    obtain ⟨t, ht, rfl⟩ := List.mem_map.1 h
    obtain ⟨ht1, ht2⟩ := List.mem_filter.1 ht
    obtain ⟨j, hj, rfl⟩ := List.mem_map.1 ht1
    have := ways_lt h1 hr hi hw
    have := List.mem_range.1 hj
    show f + j < p
    omega
theorem all_at {mode p s r i k : Nat} (hr : r < roundsOf mode p) (hi : i < p) (hk : k < (mvFrom mode p s r i).length) :
    ∃ h : (allPre mode p s r).length + (pre mode p s r i).length + k < (allOf mode p s).length, (allOf mode p s)[(allPre mode p s r).length + (pre mode p s r i).length + k]'h = (mvFrom mode p s r i)[k]'hk := by
  obtain ⟨R, h1, -⟩ := all_split mode p s r hr
  obtain ⟨R2, h2⟩ := pre_rest mode p s r (i + 1) (p - (i + 1))
  rw [show i + 1 + (p - (i + 1)) = p by omega, pre_succ] at h2
  have e : allOf mode p s = allPre mode p s r ++ (pre mode p s r i ++ (mvFrom mode p s r i ++ (R2 ++ R))) := by rw [h1, movesOf, h2]; simp [List.append_assoc]
  have hlt : (allPre mode p s r).length + (pre mode p s r i).length + k < (allOf mode p s).length := by rw [e]; simp only [List.length_append]; omega
  refine ⟨hlt, ?_⟩
  rw [List.getElem_of_eq e hlt, List.getElem_append_right (by omega), List.getElem_append_right (by omega), List.getElem_append_left (by omega)]
  congr 1
  omega
theorem heardOne_len (j : Nat) (l : List Mv) : (heardOne j l).length ≤ l.length := List.length_filter_le _ _
end Go.Proofs.Ytamhlmfcnnomgaa
