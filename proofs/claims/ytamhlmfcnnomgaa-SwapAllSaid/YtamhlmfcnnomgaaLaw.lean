/- The plain laws of swap's moves. Nothing here names the program. -/
import Derived.Test.YtamhlmfcnnomgaaMoves
namespace Go.Proofs.Ytamhlmfcnnomgaa

theorem inner_fr (mode p s r fr f j : Nat) : ∀ m ∈ inner mode p s r fr f j, m.fr = fr ∧ m.rd = r := by
  intro m hm
  obtain ⟨t, _, rfl⟩ := List.mem_map.1 hm
  exact ⟨rfl, rfl⟩
theorem mvFrom_fr (mode p s r fr : Nat) : ∀ m ∈ mvFrom mode p s r fr, m.fr = fr ∧ m.rd = r := by
  intro m hm
  unfold mvFrom at hm
  split at hm
  · cases hm
  · exact inner_fr _ _ _ _ _ _ _ m hm
theorem pre_fr (mode p s r i : Nat) : ∀ m ∈ pre mode p s r i, m.fr < i ∧ m.rd = r := by
  intro m hm
  obtain ⟨k, hk, h⟩ := List.mem_flatMap.1 hm
  have := mvFrom_fr _ _ _ _ _ m h
  have := List.mem_range.1 hk
  exact ⟨by omega, by omega⟩

theorem filter_none {l : List Mv} {P : Mv → Bool} (h : ∀ m ∈ l, P m = false) : l.filter P = [] := by
  rw [List.filter_eq_nil_iff]; intro m hm; rw [h m hm]; simp
theorem filter_all {l : List Mv} {P : Mv → Bool} (h : ∀ m ∈ l, P m = true) : l.filter P = l := List.filter_eq_self.2 h

/-- What one sends. -/
theorem sends_eq (mode p s r i : Nat) (hi : i < p) : (movesOf mode p s r).filter (fun m => (m.fr : Int) == (i : Int)) = mvFrom mode p s r i := by
  have h1 : ∀ n, i < n → (pre mode p s r n).filter (fun m => (m.fr : Int) == (i : Int)) = mvFrom mode p s r i := by
    intro n hn
    induction n with
    | zero => omega
    | succ n ih =>
      rw [pre_succ, List.filter_append]
      by_cases h : i = n
      · subst h
        rw [filter_none (fun m hm => by have := (pre_fr _ _ _ _ _ m hm).1; simp; omega), filter_all (fun m hm => by have := (mvFrom_fr _ _ _ _ _ m hm).1; simp; omega), List.nil_append]
      · rw [ih (by omega), filter_none (fun m hm => by have := (mvFrom_fr _ _ _ _ _ m hm).1; simp; omega), List.append_nil]
  exact h1 p hi

/-- Members of a round's moves. -/
theorem mem_moves {mode p s r : Nat} {m : Mv} (h : m ∈ movesOf mode p s r) : ∃ fr f k, fr < p ∧ ways mode p r fr = some (f, k) ∧ ∃ j, j < k ∧ f + j ≠ fr ∧ m = mkMv mode p s r fr (f + j) := by
  obtain ⟨fr, hfr, h⟩ := List.mem_flatMap.1 h
  unfold mvFrom at h
  split at h
  · cases h
  · rename_i f k hw
    obtain ⟨t, ht, rfl⟩ := List.mem_map.1 h
    obtain ⟨ht1, ht2⟩ := List.mem_filter.1 ht
    obtain ⟨j, hj, rfl⟩ := List.mem_map.1 ht1
    exact ⟨fr, f, k, List.mem_range.1 hfr, hw, j, List.mem_range.1 hj, by simpa using ht2, rfl⟩

/-! ### Halves -/
theorem sIter_congr (i j s n : Nat) (h : ∀ k, k < n → i / 2 ^ k % 2 = j / 2 ^ k % 2) : sIter i s n = sIter j s n := by
  induction n with
  | zero => rfl
  | succ n ih =>
    simp only [sIter]
    rw [ih (fun k hk => h k (by omega)), sStep, sStep, h n (by omega)]

theorem xor_bit (i r k : Nat) (h : k ≠ r) : (i ^^^ 2 ^ r) / 2 ^ k % 2 = i / 2 ^ k % 2 := by
  have e : ∀ x : Nat, x / 2 ^ k % 2 = (x.testBit k).toNat := fun x => by rw [Nat.testBit_eq_decide_div_mod_eq]; have := Nat.mod_lt (x / 2 ^ k) (show 0 < 2 by omega); by_cases h : x / 2 ^ k % 2 = 1 <;> simp [h] <;> omega
  rw [e, e, Nat.testBit_xor, Nat.testBit_two_pow]
  simp [show ¬ r = k from fun h' => h h'.symm]
theorem xor_bit_same (i r : Nat) : (i ^^^ 2 ^ r) / 2 ^ r % 2 = 1 - i / 2 ^ r % 2 := by
  have e : ∀ x : Nat, x / 2 ^ r % 2 = (x.testBit r).toNat := fun x => by rw [Nat.testBit_eq_decide_div_mod_eq]; have := Nat.mod_lt (x / 2 ^ r) (show 0 < 2 by omega); by_cases h : x / 2 ^ r % 2 = 1 <;> simp [h] <;> omega
  rw [e, e, Nat.testBit_xor, Nat.testBit_two_pow]
  cases i.testBit r <;> simp

/-- The partner's half is the other one. -/
theorem halves (i s r : Nat) : sIter (i ^^^ 2 ^ r) s r = sIter i s r ∧
    (((sIter i s (r + 1)).1 = (sIter i s r).1 ∧ (sIter i s (r + 1)).2 = (sIter (i ^^^ 2 ^ r) s (r + 1)).1 ∧ (sIter (i ^^^ 2 ^ r) s (r + 1)).2 = (sIter i s r).2) ∨
     ((sIter (i ^^^ 2 ^ r) s (r + 1)).1 = (sIter i s r).1 ∧ (sIter (i ^^^ 2 ^ r) s (r + 1)).2 = (sIter i s (r + 1)).1 ∧ (sIter i s (r + 1)).2 = (sIter i s r).2)) := by
  have h1 : sIter (i ^^^ 2 ^ r) s r = sIter i s r := sIter_congr _ _ _ _ (fun k hk => xor_bit i r k (by omega))
  refine ⟨h1, ?_⟩
  simp only [sIter]
  rw [h1, sStep, sStep, xor_bit_same]
  rcases (by omega : i / 2 ^ r % 2 = 0 ∨ i / 2 ^ r % 2 = 1) with h | h
  · left; simp [h]
  · right; simp [h]

def sizeOf (x : Nat × Nat) : Nat := x.2 - x.1
def sumS (l : List Mv) : Nat := (l.map fun m => m.b - m.a).sum
theorem sumS_app (l k : List Mv) : sumS (l ++ k) = sumS l + sumS k := by simp [sumS]
theorem sumS_nil : sumS [] = 0 := rfl

theorem held_le (mode p s place round : Nat) (hp : place < p) : (heldOf mode p s place round).1 ≤ (heldOf mode p s place round).2 ∧ (heldOf mode p s place round).2 ≤ s := by
  unfold heldOf
  split
  · simp
  · split
    · simp only
      constructor
      · exact Nat.div_le_div_right (Nat.mul_le_mul_right s (by omega))
      · rw [Nat.div_le_iff_le_mul_add_pred (by omega)]
        have : (place + 1) * s ≤ p * s := Nat.mul_le_mul_right s (by omega)
        omega
    · split
      · simp
      · exact sIter_le _ _ _

/-- Straight: what the first n hold, but for one. -/
theorem direct_sum (p s i n : Nat) : sumS (inner 2 p s 0 i 0 n) + (if i < n then sizeOf (heldOf 2 p s i 1) else 0) = n * s / p := by
  induction n with
  | zero => simp [inner, sumS]
  | succ n ih =>
    rw [inner_succ, sumS_app, Nat.zero_add]
    have h1 : n * s / p ≤ (n + 1) * s / p := Nat.div_le_div_right (Nat.mul_le_mul_right s (by omega))
    have e : heldOf 2 p s n 1 = (n * s / p, (n + 1) * s / p) := by simp [heldOf]
    by_cases h : n = i
    · subst h
      rw [if_pos rfl, sumS_nil, if_pos (by omega), e]
      rw [if_neg (by omega)] at ih
      simp only [sizeOf]; omega
    · rw [if_neg h]
      have e2 : sumS [mkMv 2 p s 0 i n] = (n + 1) * s / p - n * s / p := by
        have : mvSpan 2 p s 0 n = heldOf 2 p s n 1 := rfl
        simp [sumS, mkMv, this, e]
      rw [e2]
      by_cases h2 : i < n
      · rw [if_pos h2] at ih; rw [if_pos (by omega)]; omega
      · rw [if_neg h2] at ih; rw [if_neg (by omega)]; omega

/-- What SwapHolds asks of a member's moves. -/
structure Holds (a b : Nat × Nat) (out inn : List Mv) : Prop where
  keep : ∀ m ∈ out, a.1 ≤ m.a ∧ m.b ≤ a.2 ∧ ¬ (m.a < b.2 ∧ b.1 < m.b) ∧ m.a ≤ m.b
  sum : sumS out + (b.2 - b.1) = a.2 - a.1
  hear : ∀ m ∈ inn, m.a = b.1 ∧ m.b = b.2
  within : (a.1 ≤ b.1 ∧ b.2 ≤ a.2) ∨ b = (0, 0)

theorem holds (mode p s i r : Nat) (hm : mode = 1 ∨ mode = 2) (h1 : 1 ≤ p) (hi : i < p) (hr : r < roundsOf mode p) :
    Holds (heldOf mode p s i r) (heldOf mode p s i (r + 1)) (mvFrom mode p s r i) ((movesOf mode p s r).filter (fun m => (m.to : Int) == (i : Int))) := by
  have hqp := qOf_le h1
  have hpq := lt_qOf p
  have hq0 := qOf_pos p
  rcases hm with rfl | rfl
  · rw [roundsOf, if_neg (by omega)] at hr
    by_cases hr0 : r = 0
    · subst hr0
      have ea : heldOf 1 p s i 0 = (0, s) := by simp [heldOf]
      have eb : heldOf 1 p s i (0 + 1) = if qOf p ≤ i then (0, 0) else (0, s) := by simp [heldOf, sIter]
      rw [ea, eb]
      have hin : ∀ m ∈ (movesOf 1 p s 0).filter (fun m => (m.to : Int) == (i : Int)), m.a = 0 ∧ m.b = s ∧ i < qOf p := by
        intro m hm
        obtain ⟨hm1, hm2⟩ := List.mem_filter.1 hm
        obtain ⟨fr, f, k, hfr, hw, j, hj, hne, rfl⟩ := mem_moves hm1
        have ht : f + j = i := by have h := hm2; simp [mkMv] at h; omega
        simp only [ways] at hw
        rw [if_neg (by omega)] at hw
        split at hw
        · rename_i hc
          cases hw
          exact ⟨rfl, rfl, by omega⟩
        · rw [if_neg (by omega)] at hw; cases hw
      by_cases hq : qOf p ≤ i
      · rw [if_pos hq]
        have ew : mvFrom 1 p s 0 i = inner 1 p s 0 i (i - qOf p) 1 := by
          unfold mvFrom; rw [show ways 1 p 0 i = some (i - qOf p, 1) by simp [ways, hq]]
        have ei : inner 1 p s 0 i (i - qOf p) 1 = [mkMv 1 p s 0 i (i - qOf p)] := by
          rw [show (1 : Nat) = 0 + 1 from rfl, inner_succ, Nat.add_zero, if_neg (by omega)]; rfl
        rw [ew, ei]
        refine ⟨?_, ?_, fun m hm => (by have := hin m hm; omega), .inr rfl⟩
        · intro m hm
          rw [List.mem_singleton] at hm; subst hm
          simp [mkMv, mvSpan]
        · simp [sumS, mkMv, mvSpan]
      · rw [if_neg hq]
        have ew : mvFrom 1 p s 0 i = [] := by
          unfold mvFrom; rw [show ways 1 p 0 i = none by simp [ways]; omega]
        rw [ew]
        exact ⟨fun m hm => (by cases hm), by simp [sumS], fun m hm => ⟨(hin m hm).1, (hin m hm).2.1⟩, .inl ⟨Nat.le_refl _, Nat.le_refl _⟩⟩
    · obtain ⟨k, rfl⟩ : ∃ k, r = k + 1 := ⟨r - 1, by omega⟩
      have ea : heldOf 1 p s i (k + 1) = if qOf p ≤ i then (0, 0) else sIter i s k := by simp [heldOf]
      have eb : ∀ t, heldOf 1 p s t (k + 1 + 1) = if qOf p ≤ t then (0, 0) else sIter t s (k + 1) := fun t => by simp [heldOf]
      have hX : 2 ^ k < qOf p := Nat.pow_lt_pow_right (by omega) (by omega)
      rw [ea, eb i]
      have hin : ∀ m ∈ (movesOf 1 p s (k + 1)).filter (fun m => (m.to : Int) == (i : Int)), i < qOf p ∧ m.a = (sIter i s (k + 1)).1 ∧ m.b = (sIter i s (k + 1)).2 := by
        intro m hm
        obtain ⟨hm1, hm2⟩ := List.mem_filter.1 hm
        obtain ⟨fr, f, n, hfr, hw, j, hj, hne, rfl⟩ := mem_moves hm1
        have ht : f + j = i := by have h := hm2; simp [mkMv] at h; omega
        simp only [ways] at hw
        rw [if_neg (by omega), if_neg (by omega)] at hw
        split at hw
        · rename_i hc
          cases hw
          have hj0 : j = 0 := by omega
          subst hj0
          have hlt : fr ^^^ 2 ^ (k + 1 - 1) < qOf p := Nat.xor_lt_two_pow hc.2 hX
          have hiq : i < qOf p := by omega
          refine ⟨hiq, ?_⟩
          rw [ht, mkMv, mvSpan, if_neg (by omega), eb, if_neg (by omega)]
          exact ⟨rfl, rfl⟩
        · cases hw
      by_cases hq : qOf p ≤ i
      · rw [if_pos hq, if_pos hq]
        have ew : mvFrom 1 p s (k + 1) i = [] := by
          unfold mvFrom; rw [show ways 1 p (k + 1) i = none by simp [ways]; omega]
        rw [ew]
        exact ⟨fun m hm => (by cases hm), by simp [sumS], fun m hm => (by have := (hin m hm).1; omega), .inr rfl⟩
      · rw [if_neg hq, if_neg hq]
        have hiq : i < qOf p := by omega
        have hlt : i ^^^ 2 ^ k < qOf p := Nat.xor_lt_two_pow hiq hX
        have hne : i ^^^ 2 ^ k ≠ i := fun e => by
          have h2 : i ^^^ (i ^^^ 2 ^ k) = i ^^^ i := by rw [e]
          rw [← Nat.xor_assoc, Nat.xor_self, Nat.zero_xor] at h2
          have := Nat.two_pow_pos k; omega
        have ew : mvFrom 1 p s (k + 1) i = inner 1 p s (k + 1) i (i ^^^ 2 ^ k) 1 := by
          unfold mvFrom; rw [show ways 1 p (k + 1) i = some (i ^^^ 2 ^ k, 1) by rw [ways, if_neg (by omega), if_neg (by omega), if_pos ⟨by omega, hiq⟩]; rfl]
        have ei : inner 1 p s (k + 1) i (i ^^^ 2 ^ k) 1 = [mkMv 1 p s (k + 1) i (i ^^^ 2 ^ k)] := by
          rw [show (1 : Nat) = 0 + 1 from rfl, inner_succ]; simp only [Nat.add_zero]; rw [if_neg hne]; rfl
        have esp : mvSpan 1 p s (k + 1) (i ^^^ 2 ^ k) = sIter (i ^^^ 2 ^ k) s (k + 1) := by
          rw [mvSpan, if_neg (by omega), eb, if_neg (by omega)]
        obtain ⟨g1, g2⟩ := halves i s k
        have l1 := sIter_le i s (k + 1)
        have l2 := sIter_le (i ^^^ 2 ^ k) s (k + 1)
        have l3 := sIter_le i s k
        rw [ew, ei]
        refine ⟨?_, ?_, fun m hm => (hin m hm).2, ?_⟩
        · intro m hm
          rw [List.mem_singleton] at hm; subst hm
          simp only [mkMv, esp]
          omega
        · simp only [sumS, List.map_cons, List.map_nil, List.sum_cons, List.sum_nil, mkMv, esp]
          omega
        · left; omega
  · rw [roundsOf, if_pos rfl] at hr
    obtain rfl : r = 0 := by omega
    have ea : heldOf 2 p s i 0 = (0, s) := by simp [heldOf]
    have eb : ∀ t, heldOf 2 p s t (0 + 1) = (t * s / p, (t + 1) * s / p) := fun t => by simp [heldOf]
    have ew : mvFrom 2 p s 0 i = inner 2 p s 0 i 0 p := by unfold mvFrom; rw [show ways 2 p 0 i = some (0, p) by simp [ways]]
    have hle := fun t ht => held_le 2 p s t 1 ht
    have hd := direct_sum p s i p
    rw [if_pos hi, Nat.mul_div_cancel_left _ (by omega)] at hd
    rw [ea, ew]
    have mono : ∀ x y : Nat, x ≤ y → x * s / p ≤ y * s / p := fun x y h => Nat.div_le_div_right (Nat.mul_le_mul_right s h)
    refine ⟨?_, ?_, ?_, ?_⟩
    · intro m hm
      obtain ⟨t, ht, rfl⟩ := List.mem_map.1 hm
      obtain ⟨ht1, ht2⟩ := List.mem_filter.1 ht
      obtain ⟨j, hj, rfl⟩ := List.mem_map.1 ht1
      have hj := List.mem_range.1 hj
      have hne : 0 + j ≠ i := by simpa using ht2
      have e : mvSpan 2 p s 0 (0 + j) = heldOf 2 p s (0 + j) 1 := by rw [mvSpan, if_neg (by omega)]
      have h9 := hle (0 + j) (by omega)
      simp only [mkMv, e]
      rw [eb i]
      rw [show (1 : Nat) = 0 + 1 from rfl, eb (0 + j)] at h9 ⊢
      simp only at h9 ⊢
      rcases (by omega : 0 + j < i ∨ i < 0 + j) with h | h
      · have h1 := mono (0 + j + 1) i (by omega)
        have h2 := mono i (i + 1) (by omega)
        generalize i * s / p = u1 at *
        generalize (i + 1) * s / p = u2 at *
        generalize (0 + j) * s / p = u3 at *
        generalize (0 + j + 1) * s / p = u4 at *
        omega
      · have h1 := mono (i + 1) (0 + j) (by omega)
        have h2 := mono i (i + 1) (by omega)
        generalize i * s / p = u1 at *
        generalize (i + 1) * s / p = u2 at *
        generalize (0 + j) * s / p = u3 at *
        generalize (0 + j + 1) * s / p = u4 at *
        omega
    · show _ = s - 0
      rw [Nat.sub_zero]; exact hd
    · intro m hm
      obtain ⟨hm1, hm2⟩ := List.mem_filter.1 hm
      obtain ⟨fr, f, k, hfr, hw, j, hj, hne, rfl⟩ := mem_moves hm1
      have ht : f + j = i := by have h := hm2; simp [mkMv] at h; omega
      rw [ht]
      exact ⟨rfl, rfl⟩
    · left
      have := hle i hi
      exact ⟨Nat.zero_le _, this.2⟩
end Go.Proofs.Ytamhlmfcnnomgaa
