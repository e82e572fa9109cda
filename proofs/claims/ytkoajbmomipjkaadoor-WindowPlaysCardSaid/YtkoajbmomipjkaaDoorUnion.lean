/- A state into which another one's numbers are met. -/
import Derived.Test.YtkoajbmomipjkaaDoorChains
namespace Go.Proofs.YtkoajbmomipjkaaDoor
set_option linter.unusedVariables false

/-- Nothing at the top, and all that was met lies below T. -/
structure Good (T N : Nat) (x : BitVec 64) : Prop where
  top : x.getLsbD 63 = false
  low : ∀ k, metM N x k = true → k < T

theorem Good.next {T N : Nat} {x : BitVec 64} (h : Good T N x) : N ≤ T := by
  rcases Nat.eq_zero_or_pos N with h0 | h0
  · omega
  · have := h.low (N - 1) (by unfold metM; simp; omega)
    omega
theorem Good.full {T N : Nat} {x : BitVec 64} (h : Good T N x) : ~~~x ≠ 0#64 := not_full h.top

theorem Good.with {T N n : Nat} {x : BitVec 64} (h : Good T N x) (hn : n < N + 64) (hT : n < T) : Good T (withM N x n).1 (withM N x n).2 :=
  ⟨with_top h.top hn, fun k hk => by
    rw [with_met h.full (by omega)] at hk
    rcases Bool.or_eq_true _ _ ▸ hk with h1 | h1
    · exact h.low k h1
    · have := of_decide_eq_true h1; omega⟩

/-- What was met says next and mask. -/
theorem met_inj {N M : Nat} {x y : BitVec 64} (hx : x.getLsbD 63 = false) (hy : y.getLsbD 63 = false) (h : ∀ k, metM N x k = metM M y k) : N = M ∧ x = y := by
  have hN : N = M := by
    rcases Nat.lt_trichotomy N M with h1 | h1 | h1
    · have h2 := h N
      unfold metM at h2
      rw [decide_eq_false (by omega : ¬ N < N), decide_eq_true h1] at h2
      simp at h2
    · exact h1
    · have h2 := h M
      unfold metM at h2
      rw [decide_eq_false (by omega : ¬ M < M), decide_eq_true h1] at h2
      simp at h2
  subst hN
  refine ⟨rfl, BitVec.eq_of_getLsbD_eq fun i hi => ?_⟩
  have h2 := h (N + 1 + i)
  unfold metM at h2
  rw [decide_eq_false (by omega : ¬ N + 1 + i < N), decide_eq_true (by omega : N < N + 1 + i)] at h2
  have e : N + 1 + i - N - 1 = i := by omega
  rw [e] at h2
  simpa using h2

/-- The numbers behind N, met one after the other. -/
def foldW (N : Nat) (l : List Nat) (s : Nat × BitVec 64) : Nat × BitVec 64 := l.foldl (fun s i => withM s.1 s.2 (N + 1 + i)) s

theorem foldW_take {N : Nat} {l : List Nat} {s : Nat × BitVec 64} {i : Nat} (hi : i < l.length) : foldW N (l.take (i + 1)) s = withM (foldW N (l.take i) s).1 (foldW N (l.take i) s).2 (N + 1 + l[i]) := by
  unfold foldW
  rw [List.take_succ_eq_append_getElem hi, List.foldl_append]
  rfl

theorem foldW_good {T N : Nat} : ∀ (l : List Nat) {s : Nat × BitVec 64}, (∀ i ∈ l, i < 63 ∧ N + 1 + i < T) → N ≤ s.1 → Good T s.1 s.2 →
    Good T (foldW N l s).1 (foldW N l s).2 ∧ s.1 ≤ (foldW N l s).1 ∧ ∀ k, metM (foldW N l s).1 (foldW N l s).2 k = (metM s.1 s.2 k || decide (∃ i ∈ l, k = N + 1 + i))
  | [], s, _, _, h => ⟨h, Nat.le_refl _, fun k => by simp [foldW]⟩
  | i :: l, s, hl, hN, h => by
    obtain ⟨h1, h2⟩ := hl i (by simp)
    have hn : N + 1 + i < s.1 + 64 := by omega
    have hw := h.with hn h2
    have hx : s.1 ≤ (withM s.1 s.2 (N + 1 + i)).1 := with_next
    obtain ⟨a, b, c⟩ := foldW_good (T := T) (N := N) l (s := withM s.1 s.2 (N + 1 + i)) (fun j hj => hl j (by simp [hj])) (by omega) hw
    refine ⟨a, Nat.le_trans hx b, fun k => ?_⟩
    show metM (foldW N l (withM s.1 s.2 (N + 1 + i))).1 (foldW N l (withM s.1 s.2 (N + 1 + i))).2 k = _
    rw [c k, with_met h.full (by omega)]
    simp [Bool.or_assoc]

noncomputable def chainL (x : BitVec 64) : List Nat := Classical.choose (chain_ex x)
theorem chainL_spec (x : BitVec 64) : Chain x (chainL x) := Classical.choose_spec (chain_ex x)

/-- What Told makes of (N, x), told (M, y). -/
noncomputable def unionM (N : Nat) (x : BitVec 64) (M : Nat) (y : BitVec 64) : Nat × BitVec 64 :=
  if M < N then foldW M (chainL y) (N, x) else foldW N (chainL x) (M, y)

theorem Good.chain {T N : Nat} {x : BitVec 64} (h : Good T N x) {l : List Nat} (hl : Chain x l) : ∀ i ∈ l, i < 63 ∧ N + 1 + i < T := by
  intro i hi
  have hb := (hl.mem i).1 hi
  have h64 := hl.lt i hi
  refine ⟨?_, h.low _ ?_⟩
  · rcases Nat.lt_or_ge i 63 with h1 | h1
    · exact h1
    · obtain rfl : i = 63 := by omega
      rw [h.top] at hb; cases hb
  · unfold metM
    have e : N + 1 + i - N - 1 = i := by omega
    rw [e, hb, decide_eq_true (by omega : N < N + 1 + i)]
    simp

theorem chain_met {N k : Nat} {x : BitVec 64} {l : List Nat} (hl : Chain x l) : metM N x k = (decide (k < N) || decide (∃ i ∈ l, k = N + 1 + i)) := by
  unfold metM
  congr 1
  rw [Bool.eq_iff_iff, Bool.and_eq_true, decide_eq_true_eq, decide_eq_true_eq]
  constructor
  · rintro ⟨h1, h2⟩
    exact ⟨k - N - 1, (hl.mem _).2 h2, by omega⟩
  · rintro ⟨i, hi, rfl⟩
    have e : N + 1 + i - N - 1 = i := by omega
    exact ⟨by omega, by rw [e]; exact (hl.mem i).1 hi⟩

/-- A fold of one state's numbers into another one's that is not behind: both are met. -/
theorem foldW_union {T N M : Nat} {x y : BitVec 64} {l : List Nat} (hx : Good T N x) (hy : Good T M y) (hl : Chain x l) (hNM : N ≤ M) :
    Good T (foldW N l (M, y)).1 (foldW N l (M, y)).2 ∧ M ≤ (foldW N l (M, y)).1 ∧ ∀ k, metM (foldW N l (M, y)).1 (foldW N l (M, y)).2 k = (metM N x k || metM M y k) := by
  obtain ⟨a, b, c⟩ := foldW_good l (s := (M, y)) (hx.chain hl) hNM hy
  refine ⟨a, b, fun k => ?_⟩
  rw [c k, chain_met hl]
  by_cases hk : k < N
  · have : metM M y k = true := by unfold metM; rw [decide_eq_true (by omega : k < M)]; rfl
    simp [this]
  · rw [decide_eq_false hk, Bool.false_or, Bool.or_comm]

theorem union_spec {T N M : Nat} {x y : BitVec 64} (hx : Good T N x) (hy : Good T M y) :
    Good T (unionM N x M y).1 (unionM N x M y).2 ∧ N ≤ (unionM N x M y).1 ∧ M ≤ (unionM N x M y).1 ∧ ∀ k, metM (unionM N x M y).1 (unionM N x M y).2 k = (metM N x k || metM M y k) := by
  unfold unionM
  split
  · next h =>
    obtain ⟨a, b, c⟩ := foldW_union hy hx (chainL_spec y) (by omega)
    exact ⟨a, b, by omega, fun k => by rw [c k, Bool.or_comm]⟩
  · next h =>
    obtain ⟨a, b, c⟩ := foldW_union hx hy (chainL_spec x) (by omega)
    exact ⟨a, by omega, b, c⟩
end Go.Proofs.YtkoajbmomipjkaaDoor
