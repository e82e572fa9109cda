/- The plain law of what swaps cost. Nothing here names the program. -/
import Derived.Test.YtamhlmfcnnomgaaLaw
import Derived.Test.YtamhlmfcnnomgaaAll
namespace Go.Proofs.Ytamhlmfcnnomgaa

def sumTo (f : Nat → Nat) : Nat → Nat
  | 0 => 0
  | n + 1 => sumTo f n + f n
theorem sumTo_add (f : Nat → Nat) (a b : Nat) : sumTo f (a + b) = sumTo f a + sumTo (fun j => f (a + j)) b := by
  induction b with
  | zero => rfl
  | succ b ih => rw [← Nat.add_assoc]; simp only [sumTo]; omega
theorem sumTo_congr {f g : Nat → Nat} {n : Nat} (h : ∀ i, i < n → f i = g i) : sumTo f n = sumTo g n := by
  induction n with
  | zero => rfl
  | succ n ih => simp only [sumTo]; rw [ih (fun i hi => h i (by omega)), h n (by omega)]
theorem sumTo_plus (f g : Nat → Nat) (n : Nat) : sumTo f n + sumTo g n = sumTo (fun i => f i + g i) n := by
  induction n with
  | zero => rfl
  | succ n ih => simp only [sumTo]; omega
theorem sumTo_const (c n : Nat) : sumTo (fun _ => c) n = n * c := by
  induction n with
  | zero => simp [sumTo]
  | succ n ih => simp only [sumTo]; rw [ih, Nat.add_mul]; omega

/-- How many slots one has left. -/
def G (s n i : Nat) : Nat := sizeOf (sIter i s n)

theorem add_bit (i n k : Nat) (h : k < n) : (i + 2 ^ n) / 2 ^ k % 2 = i / 2 ^ k % 2 := by
  have e : 2 ^ n = 2 ^ k * (2 * 2 ^ (n - k - 1)) := by rw [← Nat.mul_assoc, ← Nat.pow_succ, ← Nat.pow_add]; congr 1; omega
  rw [e, Nat.add_mul_div_left _ _ (Nat.two_pow_pos k)]
  omega
theorem G_period (s n i : Nat) : G s n (i + 2 ^ n) = G s n i := by
  unfold G; rw [sIter_congr (i + 2 ^ n) i s n (fun k hk => add_bit i n k hk)]
theorem G_split (s n i : Nat) (hi : i < 2 ^ n) : G s (n + 1) i + G s (n + 1) (i + 2 ^ n) = G s n i := by
  have h1 : sIter (i + 2 ^ n) s n = sIter i s n := sIter_congr _ _ _ _ (fun k hk => add_bit i n k hk)
  have b0 : i / 2 ^ n % 2 = 0 := by rw [Nat.div_eq_of_lt hi]
  have b1 : (i + 2 ^ n) / 2 ^ n % 2 = 1 := by
    rw [Nat.add_div_right _ (Nat.two_pow_pos n), Nat.div_eq_of_lt hi]
  have l3 := sIter_le i s n
  unfold G
  simp only [sIter]
  rw [h1, sStep, sStep, if_pos b0, if_neg (by omega)]
  simp only [sizeOf]
  omega
/-- All that is left ahead of a round, of all. -/
theorem G_all (s n : Nat) : sumTo (G s n) (2 ^ n) = s := by
  induction n with
  | zero => simp [sumTo, G, sIter, sizeOf]
  | succ n ih =>
    rw [Nat.pow_succ, Nat.mul_two, sumTo_add, sumTo_plus]
    refine Eq.trans ?_ ih
    apply sumTo_congr
    intro i hi
    rw [Nat.add_comm (2 ^ n) i]
    exact G_split s n i hi
theorem G_partner (s n i : Nat) : G s (n + 1) (i ^^^ 2 ^ n) + G s (n + 1) i = G s n i := by
  obtain ⟨h1, h2⟩ := halves i s n
  have l1 := sIter_le i s (n + 1)
  have l2 := sIter_le (i ^^^ 2 ^ n) s (n + 1)
  have l3 := sIter_le i s n
  unfold G sizeOf
  omega

theorem pre_sum (mode p s r i : Nat) : sumS (pre mode p s r i) = sumTo (fun k => sumS (mvFrom mode p s r k)) i := by
  induction i with
  | zero => rfl
  | succ i ih => rw [pre_succ, sumS_app, ih]; rfl
theorem pre_length (mode p s r i c : Nat) (h : ∀ k, k < i → (mvFrom mode p s r k).length = c) : (pre mode p s r i).length = i * c := by
  induction i with
  | zero => simp [pre]
  | succ i ih => rw [pre_succ, List.length_append, ih (fun k hk => h k (by omega)), h i (by omega), Nat.add_mul]; omega

theorem qOf_two (h : Nat) : qOf (2 ^ h) = 2 ^ h := by unfold qOf; rw [Nat.log2_two_pow]

/-- By halves: a later round. -/
theorem half_from (s h k i : Nat) (hk : k < h) (hi : i < 2 ^ h) : mvFrom 1 (2 ^ h) s (k + 1) i = [mkMv 1 (2 ^ h) s (k + 1) i (i ^^^ 2 ^ k)] ∧ mvSpan 1 (2 ^ h) s (k + 1) (i ^^^ 2 ^ k) = sIter (i ^^^ 2 ^ k) s (k + 1) := by
  have hX : 2 ^ k < 2 ^ h := Nat.pow_lt_pow_right (by omega) hk
  have hlt : i ^^^ 2 ^ k < 2 ^ h := Nat.xor_lt_two_pow hi hX
  have hne : i ^^^ 2 ^ k ≠ i := fun e => by
    have h2 : i ^^^ (i ^^^ 2 ^ k) = i ^^^ i := by rw [e]
    rw [← Nat.xor_assoc, Nat.xor_self, Nat.zero_xor] at h2
    have := Nat.two_pow_pos k; omega
  constructor
  · unfold mvFrom
    rw [show ways 1 (2 ^ h) (k + 1) i = some (i ^^^ 2 ^ k, 1) by rw [ways, qOf_two, if_neg (by omega), if_neg (by omega), if_pos ⟨by omega, hi⟩]; rfl]
    simp only
    rw [show (1 : Nat) = 0 + 1 from rfl, inner_succ]; simp only [Nat.add_zero]; rw [if_neg hne]; rfl
  · rw [mvSpan, if_neg (by omega), heldOf, if_neg (by omega), if_neg (by omega), qOf_two, if_neg (by omega)]
    rfl

theorem half_round (s h k : Nat) (hk : k < h) : (movesOf 1 (2 ^ h) s (k + 1)).length = 2 ^ h ∧ sumS (movesOf 1 (2 ^ h) s (k + 1)) + sumTo (G s (k + 1)) (2 ^ h) = sumTo (G s k) (2 ^ h) := by
  constructor
  · unfold movesOf
    rw [pre_length _ _ _ _ _ 1 (fun i hi => by rw [(half_from s h k i hk hi).1]; rfl), Nat.mul_one]
  · unfold movesOf
    rw [pre_sum, sumTo_plus]
    apply sumTo_congr
    intro i hi
    obtain ⟨h1, h2⟩ := half_from s h k i hk hi
    rw [h1]
    have : sumS [mkMv 1 (2 ^ h) s (k + 1) i (i ^^^ 2 ^ k)] = G s (k + 1) (i ^^^ 2 ^ k) := by simp [sumS, mkMv, h2, G, sizeOf]
    rw [this]
    exact G_partner s k i

theorem first_round (s h : Nat) : movesOf 1 (2 ^ h) s 0 = [] := by
  unfold movesOf pre
  rw [List.flatMap_eq_nil_iff]
  intro i hi
  have hi := List.mem_range.1 hi
  unfold mvFrom
  rw [show ways 1 (2 ^ h) 0 i = none by rw [ways, qOf_two, if_neg (by omega), if_neg (by omega), if_neg (by omega)]]

theorem half_all (s h : Nat) : (allOf 1 (2 ^ h) s).length = 2 ^ h * h ∧ sumS (allOf 1 (2 ^ h) s) + s = 2 ^ h * s := by
  have hr : roundsOf 1 (2 ^ h) = h + 1 := by unfold roundsOf; rw [if_neg (by omega), Nat.log2_two_pow]
  have key : ∀ k, k ≤ h → (allPre 1 (2 ^ h) s (k + 1)).length = 2 ^ h * k ∧ sumS (allPre 1 (2 ^ h) s (k + 1)) + sumTo (G s k) (2 ^ h) = 2 ^ h * s := by
    intro k
    induction k with
    | zero =>
      intro _
      rw [allPre_succ, first_round]
      refine ⟨by simp [allPre], ?_⟩
      rw [List.append_nil, show sumTo (G s 0) (2 ^ h) = sumTo (fun _ => s) (2 ^ h) from sumTo_congr (fun i _ => by simp [G, sIter, sizeOf]), sumTo_const]
      simp [allPre, sumS]
    | succ k ih =>
      intro hk
      obtain ⟨i1, i2⟩ := ih (by omega)
      obtain ⟨r1, r2⟩ := half_round s h k (by omega)
      rw [allPre_succ, List.length_append, sumS_app, i1, r1, Nat.mul_add]
      exact ⟨by omega, by omega⟩
  unfold allOf
  rw [hr]
  obtain ⟨k1, k2⟩ := key h (Nat.le_refl _)
  rw [G_all] at k2
  exact ⟨k1, k2⟩

theorem direct_len (p s i n : Nat) : (inner 2 p s 0 i 0 n).length = if i < n then n - 1 else n := by
  induction n with
  | zero => simp [inner]
  | succ n ih =>
    rw [inner_succ, List.length_append, ih, Nat.zero_add]
    by_cases h : n = i
    · subst h; simp
    · rw [if_neg h]
      by_cases h2 : i < n
      · rw [if_pos h2, if_pos (by omega)]; simp; omega
      · rw [if_neg h2, if_neg (by omega)]; simp

theorem direct_all (p s : Nat) (hp : 1 ≤ p) : (allOf 2 p s).length = p * (p - 1) ∧ sumS (allOf 2 p s) + s = p * s := by
  have ha : allOf 2 p s = movesOf 2 p s 0 := by
    unfold allOf roundsOf
    rw [if_pos rfl, show (1 : Nat) = 0 + 1 from rfl, allPre_succ]
    simp [allPre]
  have ew : ∀ i, mvFrom 2 p s 0 i = inner 2 p s 0 i 0 p := fun i => by unfold mvFrom; rw [show ways 2 p 0 i = some (0, p) by simp [ways]]
  rw [ha]
  unfold movesOf
  constructor
  · exact pre_length _ _ _ _ _ _ (fun i hi => by rw [ew, direct_len, if_pos hi])
  · rw [pre_sum]
    have h1 : sumTo (fun k => sumS (mvFrom 2 p s 0 k)) p + sumTo (fun i => sizeOf (heldOf 2 p s i 1)) p = p * s := by
      rw [sumTo_plus, ← sumTo_const s p]
      apply sumTo_congr
      intro i hi
      have := direct_sum p s i p
      rw [if_pos hi, Nat.mul_div_cancel_left _ (by omega)] at this
      rw [ew]; exact this
    have h2 : ∀ n, sumTo (fun i => sizeOf (heldOf 2 p s i 1)) n = n * s / p := by
      intro n
      induction n with
      | zero => simp [sumTo]
      | succ n ih =>
        simp only [sumTo]
        rw [ih]
        have e : heldOf 2 p s n 1 = (n * s / p, (n + 1) * s / p) := by simp [heldOf]
        have : n * s / p ≤ (n + 1) * s / p := Nat.div_le_div_right (Nat.mul_le_mul_right s (by omega))
        rw [e]; simp only [sizeOf]; omega
    rw [h2, Nat.mul_div_cancel_left _ (by omega)] at h1
    exact h1

theorem moves_le {mode p s r : Nat} (hp : 1 ≤ p) (hm : mode = 1 ∨ mode = 2) (hr : r < roundsOf mode p) : ∀ m ∈ movesOf mode p s r, m.a ≤ m.b := by
  intro m hmm
  have hfr := (pre_fr mode p s r p m hmm).1
  have := (holds mode p s m.fr r hm hp hfr hr).keep m (by
    rw [← sends_eq mode p s r m.fr hfr]
    exact List.mem_filter.2 ⟨hmm, by simp⟩)
  exact this.2.2.2
theorem all_le {mode p s : Nat} (hp : 1 ≤ p) (hm : mode = 1 ∨ mode = 2) : ∀ m ∈ allOf mode p s, m.a ≤ m.b := by
  intro m hmm
  obtain ⟨r, hr, h⟩ := List.mem_flatMap.1 hmm
  exact moves_le hp hm (List.mem_range.1 hr) m h
end Go.Proofs.Ytamhlmfcnnomgaa
