/- What the reference's Plan lays, row by row (plain law). -/
import Derived.Test.YtamhlmfcnnomgaaLawP
namespace Go.Proofs.Ytamhlmfcnnomgaa

section
variable {α : Type}
/-- So many rows are whole, the next one is under way. -/
def stage (F : Nat → List α) (n K : Nat) (l : List α) : List (List α) := (List.range n).map fun j => if j < K then F j else if j = K then l else []
theorem stage_len (F : Nat → List α) (n K : Nat) (l : List α) : (stage F n K l).length = n := by simp [stage]
theorem stage_at (F : Nat → List α) {n K : Nat} (l : List α) {j : Nat} (h : j < n) : (stage F n K l)[j]'(by rw [stage_len]; exact h) = if j < K then F j else if j = K then l else [] := by simp [stage]
theorem stage_set (F : Nat → List α) (n K : Nat) (l l' : List α) : (stage F n K l).set K l' = stage F n K l' := by
  apply List.ext_getElem (by simp [stage_len])
  intro j h1 h2
  have hj : j < n := by rw [stage_len] at h2; exact h2
  rw [stage_at F l' hj]
  by_cases h : K = j
  · subst h; rw [List.getElem_set_self, if_neg (by omega), if_pos rfl]
  · rw [List.getElem_set_ne h, stage_at F l hj]
    by_cases h3 : j < K
    · rw [if_pos h3, if_pos h3]
    · rw [if_neg h3, if_neg h3, if_neg (fun e => h e.symm), if_neg (fun e => h e.symm)]
theorem stage_next (F : Nat → List α) (n K : Nat) : stage F n K (F K) = stage F n (K + 1) [] := by
  apply List.ext_getElem (by simp [stage_len])
  intro j h1 h2
  have hj : j < n := by rw [stage_len] at h2; exact h2
  rw [stage_at F _ hj, stage_at F _ hj]
  by_cases h3 : j < K
  · rw [if_pos h3, if_pos (by omega)]
  · by_cases h4 : j = K
    · subst h4; rw [if_neg h3, if_pos rfl, if_pos (by omega)]
    · rw [if_neg h3, if_neg h4, if_neg (by omega)]; split <;> rfl
theorem stage_zero (F : Nat → List α) (n : Nat) : stage F n 0 [] = List.replicate n [] := by
  apply List.ext_getElem (by simp [stage_len])
  intro j h1 h2
  have hj : j < n := by rw [stage_len] at h1; exact h1
  rw [stage_at F _ hj, List.getElem_replicate, if_neg (by omega)]; split <;> rfl
def wholeX (F : Nat → List α) (n : Nat) : List (List α) := (List.range n).map F
theorem stage_all (F : Nat → List α) {n K : Nat} (h : n ≤ K) (l : List α) : stage F n K l = wholeX F n := by
  apply List.ext_getElem (by simp [stage_len, wholeX])
  intro j h1 h2
  have hj : j < n := by rw [stage_len] at h1; exact h1
  rw [stage_at F _ hj, if_pos (by omega)]; simp [wholeX]
theorem wholeX_at (F : Nat → List α) {n j : Nat} (h : j < n) : (wholeX F n)[j]'(by simpa [wholeX] using h) = F j := by simp [wholeX]
end
def heldRow (mode p s k i : Nat) : List (Nat × Nat) := (List.range i).map fun j => heldOf mode p s j k
theorem heldRow_succ (mode p s k i : Nat) : heldRow mode p s k (i + 1) = heldRow mode p s k i ++ [heldOf mode p s i k] := by simp [heldRow, List.range_succ]
theorem heldRow_len (mode p s k i : Nat) : (heldRow mode p s k i).length = i := by simp [heldRow]
theorem heldRow_at (mode p s k : Nat) {i j : Nat} (h : j < i) : (heldRow mode p s k i)[j]'(by rw [heldRow_len]; exact h) = heldOf mode p s j k := by simp [heldRow]

theorem held_first (mode p s i : Nat) : heldOf mode p s i 0 = (0, s) := by simp [heldOf]
theorem held_dir2 (p s i : Nat) : heldOf 2 p s i 1 = (i * s / p, (i + 1) * s / p) := by simp [heldOf]
theorem held_one (p s i : Nat) : heldOf 1 p s i 1 = if qOf p ≤ i then (0, 0) else (0, s) := by simp [heldOf, sIter]
theorem from_one (p s i : Nat) : mvFrom 1 p s 0 i = if qOf p ≤ i then [⟨0, i, i - qOf p, 0, s⟩] else [] := by
  have hq := qOf_pos p
  unfold mvFrom ways
  rw [if_neg (by omega)]
  by_cases h : qOf p ≤ i
  · rw [if_pos ⟨rfl, h⟩, if_pos h]
    have hne : ¬ i - qOf p = i := by omega
    simp [inner, List.range_succ, hne, mkMv, mvSpan]
  · rw [if_neg (fun h' => h h'.2), if_neg (fun h' => by omega), if_neg h]
theorem xor_add : ∀ i : Fin 64, ∀ k : Fin 6, (i.1 / 2 ^ k.1 % 2 = 0 → i.1 ^^^ 2 ^ k.1 = i.1 + 2 ^ k.1) ∧ (¬ i.1 / 2 ^ k.1 % 2 = 0 → i.1 ^^^ 2 ^ k.1 = i.1 - 2 ^ k.1 ∧ 2 ^ k.1 ≤ i.1) := by decide +kernel
/-- A round by halves: who has gone on holds a half, and tells the other one. -/
theorem half_round {p s r i : Nat} (h1 : 1 ≤ p) (h2 : p ≤ 64) (hr : r + 1 < roundsOf 1 p) (hi : i < qOf p) :
    (i / 2 ^ r % 2 = 0 → heldOf 1 p s i (r + 2) = ((heldOf 1 p s i (r + 1)).1, (heldOf 1 p s i (r + 1)).1 + ((heldOf 1 p s i (r + 1)).2 - (heldOf 1 p s i (r + 1)).1) / 2) ∧
      mvFrom 1 p s (r + 1) i = [⟨r + 1, i, i + 2 ^ r, (heldOf 1 p s i (r + 1)).1 + ((heldOf 1 p s i (r + 1)).2 - (heldOf 1 p s i (r + 1)).1) / 2, (heldOf 1 p s i (r + 1)).2⟩]) ∧
    (¬ i / 2 ^ r % 2 = 0 → heldOf 1 p s i (r + 2) = ((heldOf 1 p s i (r + 1)).1 + ((heldOf 1 p s i (r + 1)).2 - (heldOf 1 p s i (r + 1)).1) / 2, (heldOf 1 p s i (r + 1)).2) ∧ 2 ^ r ≤ i ∧
      mvFrom 1 p s (r + 1) i = [⟨r + 1, i, i - 2 ^ r, (heldOf 1 p s i (r + 1)).1, (heldOf 1 p s i (r + 1)).1 + ((heldOf 1 p s i (r + 1)).2 - (heldOf 1 p s i (r + 1)).1) / 2⟩]) := by
  have hl := log_le h1 h2
  have hql := qOf_le h1
  have hrl : r < Nat.log2 p := by unfold roundsOf at hr; rw [if_neg (by omega)] at hr; omega
  have hx := xor_add ⟨i, by omega⟩ ⟨r, by omega⟩
  dsimp only at hx
  have hxq : i ^^^ 2 ^ r < qOf p := by
    refine Nat.xor_lt_two_pow hi ?_
    exact Nat.pow_lt_pow_right (by omega) hrl
  have hne : ¬ i ^^^ 2 ^ r = i := by
    have hp : 0 < 2 ^ r := Nat.two_pow_pos r
    by_cases h : i / 2 ^ r % 2 = 0
    · rw [hx.1 h]; omega
    · have := hx.2 h; omega
  have e1 : heldOf 1 p s i (r + 1) = sIter i s r := by unfold heldOf; rw [if_neg (by omega), if_neg (by omega), if_neg (by omega)]; rfl
  have e2 : heldOf 1 p s i (r + 2) = sStep i r (sIter i s r) := by unfold heldOf; rw [if_neg (by omega), if_neg (by omega), if_neg (by omega)]; rfl
  have e3 : heldOf 1 p s (i ^^^ 2 ^ r) (r + 2) = sStep (i ^^^ 2 ^ r) r (sIter i s r) := by
    unfold heldOf
    rw [if_neg (by omega), if_neg (by omega), if_neg (by omega)]
    show sStep (i ^^^ 2 ^ r) r (sIter (i ^^^ 2 ^ r) s r) = _
    rw [(halves i s r).1]
  have e4 : mvFrom 1 p s (r + 1) i = [⟨r + 1, i, i ^^^ 2 ^ r, (heldOf 1 p s (i ^^^ 2 ^ r) (r + 2)).1, (heldOf 1 p s (i ^^^ 2 ^ r) (r + 2)).2⟩] := by
    unfold mvFrom ways
    rw [if_neg (by omega), if_neg (fun h => by omega), if_pos ⟨by omega, hi⟩]
    show inner 1 p s (r + 1) i (i ^^^ 2 ^ (r + 1 - 1)) 1 = _
    rw [Nat.add_sub_cancel]
    simp [inner, List.range_succ, hne, mkMv, mvSpan]
  rw [e4, e3, e2, e1]
  have hb := xor_bit_same i r
  constructor
  · intro h
    rw [h] at hb
    unfold sStep
    rw [if_pos h, if_neg (by omega), hx.1 h]
    exact ⟨rfl, rfl⟩
  · intro h
    have h01 : i / 2 ^ r % 2 = 1 := by omega
    rw [h01] at hb
    unfold sStep
    rw [if_neg h, if_pos (by omega), (hx.2 h).1]
    exact ⟨rfl, (hx.2 h).2, rfl⟩
theorem late_round {p s r i : Nat} (hi : qOf p ≤ i) : heldOf 1 p s i (r + 2) = (0, 0) ∧ mvFrom 1 p s (r + 1) i = [] := by
  constructor
  · unfold heldOf; rw [if_neg (by omega), if_neg (by omega), if_pos hi]
  · unfold mvFrom ways; rw [if_neg (by omega), if_neg (fun h => by omega), if_neg (fun h => by omega)]
end Go.Proofs.Ytamhlmfcnnomgaa
