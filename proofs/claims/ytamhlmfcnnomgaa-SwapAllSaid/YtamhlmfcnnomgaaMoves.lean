/- The moves of a round, as a list. Nothing here names the program. -/
import Derived.Test.YtamhlmfcnnomgaaModel
namespace Go.Proofs.Ytamhlmfcnnomgaa

structure Mv where
  rd : Nat
  fr : Nat
  to : Nat
  a : Nat
  b : Nat
deriving DecidableEq

def moveV (m : Mv) : Value := .agg #[.int .i64 m.rd, .int .i64 m.fr, .int .i64 m.to, .int .i64 m.a, .int .i64 m.b]

def mvSpan (mode p s r to : Nat) : Nat × Nat := if mode = 1 ∧ r = 0 then (0, s) else heldOf mode p s to (r + 1)
def mkMv (mode p s r fr to : Nat) : Mv := ⟨r, fr, to, (mvSpan mode p s r to).1, (mvSpan mode p s r to).2⟩
/-- To whom: the first one, and how many. -/
def ways (mode p r fr : Nat) : Option (Nat × Nat) :=
  if mode = 2 then some (0, p) else if r = 0 ∧ qOf p ≤ fr then some (fr - qOf p, 1) else if 0 < r ∧ fr < qOf p then some (fr ^^^ 2 ^ (r - 1), 1) else none
def inner (mode p s r fr f j : Nat) : List Mv := (((List.range j).map (f + ·)).filter fun to => to ≠ fr).map (mkMv mode p s r fr)
def mvFrom (mode p s r fr : Nat) : List Mv := match ways mode p r fr with | none => [] | some (f, m) => inner mode p s r fr f m
def pre (mode p s r i : Nat) : List Mv := (List.range i).flatMap (mvFrom mode p s r)
def movesOf (mode p s r : Nat) : List Mv := pre mode p s r p

theorem pre_succ (mode p s r i : Nat) : pre mode p s r (i + 1) = pre mode p s r i ++ mvFrom mode p s r i := by
  simp [pre, List.range_succ]
theorem inner_succ (mode p s r fr f j : Nat) : inner mode p s r fr f (j + 1) = inner mode p s r fr f j ++ (if f + j = fr then [] else [mkMv mode p s r fr (f + j)]) := by
  unfold inner
  rw [List.range_succ, List.map_append, List.filter_append, List.map_append]
  congr 1
  by_cases h : f + j = fr <;> simp [h]
theorem pre_rest (mode p s r i : Nat) (n : Nat) : ∃ rest, pre mode p s r (i + n) = pre mode p s r i ++ rest := by
  induction n with
  | zero => exact ⟨[], by simp⟩
  | succ n ih =>
    obtain ⟨rest, h⟩ := ih
    exact ⟨rest ++ mvFrom mode p s r (i + n), by rw [← Nat.add_assoc, pre_succ, h, List.append_assoc]⟩
theorem inner_rest (mode p s r fr f j : Nat) (n : Nat) : ∃ rest, inner mode p s r fr f (j + n) = inner mode p s r fr f j ++ rest := by
  induction n with
  | zero => exact ⟨[], by simp⟩
  | succ n ih =>
    obtain ⟨rest, h⟩ := ih
    exact ⟨_, by rw [← Nat.add_assoc, inner_succ, h, List.append_assoc]⟩

/-- What the j-th one of a member's others is, among all moves. -/
theorem moves_at (mode p s r i f m j : Nat) (hi : i < p) (hw : ways mode p r i = some (f, m)) (hj : j < m) (hne : f + j ≠ i) :
    ∃ h : (pre mode p s r i ++ inner mode p s r i f j).length < (movesOf mode p s r).length, (movesOf mode p s r)[(pre mode p s r i ++ inner mode p s r i f j).length]'h = mkMv mode p s r i (f + j) := by
  obtain ⟨r1, h1⟩ := pre_rest mode p s r (i + 1) (p - (i + 1))
  obtain ⟨r2, h2⟩ := inner_rest mode p s r i f (j + 1) (m - (j + 1))
  have e : movesOf mode p s r = (pre mode p s r i ++ inner mode p s r i f j) ++ mkMv mode p s r i (f + j) :: (r2 ++ r1) := by
    unfold movesOf
    rw [show i + 1 + (p - (i + 1)) = p by omega] at h1
    rw [show j + 1 + (m - (j + 1)) = m by omega] at h2
    rw [h1, pre_succ, mvFrom, hw]
    simp only
    rw [h2, inner_succ, if_neg hne]
    simp
  have hl : (pre mode p s r i ++ inner mode p s r i f j).length < (movesOf mode p s r).length := by rw [e]; simp
  refine ⟨hl, ?_⟩
  rw [List.getElem_of_eq e hl]
  simp
end Go.Proofs.Ytamhlmfcnnomgaa
