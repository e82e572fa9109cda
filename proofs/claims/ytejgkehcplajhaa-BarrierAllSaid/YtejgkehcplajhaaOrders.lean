/- The walk of the law BarrierOrders. -/
import Derived.Test.YtejgkehcplajhaaMade
import Derived.Test.YtejgkehcplajhaaBar5
import Derived.Test.YtejgkehcplajhaaWf
namespace Go.Proofs.Ytejgkehcplajhaa
open Go.RowKit
set_option linter.unusedVariables false

/-- The frame under way, and who has passed it, when S have passed the first one. -/
def stF (ms : List Int) (f : Int) (S : Int → Bool) : Int := if missL ms S = [] then f + 1 else f
def stP (ms : List Int) (S : Int → Bool) : Int → Bool := if missL ms S = [] then (fun _ => false) else S

theorem missL_none {ms : List Int} (h : ms ≠ []) : missL ms (fun _ => false) ≠ [] := by
  cases ms with
  | nil => exact absurd rfl h
  | cons x l => simp [missL]

theorem missL_more {ms : List Int} {S : Int → Bool} {x : Int} (h : missL ms S = []) : missL ms (fun y => S y || y == x) = [] := by
  simp only [missL, List.filter_eq_nil_iff] at h ⊢
  intro y hy
  have := h y hy
  simp only [Bool.not_eq_true, Bool.not_eq_false'] at this ⊢
  simp [this]

theorem pass_st {ms : List Int} {f : Int} {S : Int → Bool} {x : Int} (hx : x ∈ ms) (hne : ms ≠ []) (hf : f < 12) :
    ∃ b, passM f (stF ms f S) 12 ms (stP ms S) x f = (b, 0, stF ms f (fun y => S y || y == x), stP ms (fun y => S y || y == x)) := by
  unfold passM stF stP
  by_cases h : missL ms S = []
  · have h2 : missL ms (fun y => S y || y == x) = [] := missL_more h
    rw [if_pos h, if_pos h, if_pos h2, if_pos h2, if_neg (by simp only [hx, not_true_eq_false, false_or]; omega), if_pos (by omega)]
    exact ⟨_, rfl⟩
  · rw [if_neg h, if_neg h, if_neg (by simp only [hx, not_true_eq_false, false_or]; omega), if_neg (by omega)]
    by_cases h2 : missL ms (fun y => S y || y == x) = []
    · rw [if_pos h2, if_pos h2, if_pos h2]; exact ⟨_, rfl⟩
    · rw [if_neg h2, if_neg h2, if_neg h2]; exact ⟨_, rfl⟩

theorem stF_bd (ms : List Int) (f : Int) (S : Int → Bool) : f ≤ stF ms f S ∧ stF ms f S ≤ f + 1 := by unfold stF; split <;> omega

/-- Who is named by the first k of some. -/
def setK (g : Nat → Int) (k : Nat) : Int → Bool := fun y => (List.range k).any fun i => y == g i
theorem setK_zero (g : Nat → Int) : setK g 0 = fun _ => false := by funext y; simp [setK]
theorem setK_succ (g : Nat → Int) (k : Nat) : setK g (k + 1) = fun y => setK g k y || y == g k := by
  funext y; simp [setK, List.range_succ]
theorem setK_iff {g : Nat → Int} {k : Nat} {y : Int} : setK g k y = true ↔ ∃ i, i < k ∧ y = g i := by
  simp [setK]

/-- Those of the second barrier: from behind, then from ahead. -/
def set2 (g h : Nat → Int) (n k : Nat) : Int → Bool := fun y => setK g n y || setK h k y
theorem set2_zero (g h : Nat → Int) (n : Nat) : set2 g h n 0 = setK g n := by funext y; simp [set2, setK]
theorem set2_succ (g h : Nat → Int) (n k : Nat) : set2 g h n (k + 1) = fun y => set2 g h n k y || y == h k := by
  funext y; simp [set2, setK_succ, Bool.or_assoc]
theorem set_same (g h : Nat → Int) (n : Nat) (e : ∀ i, i < n → g i = h (n - 1 - i)) : setK h n = set2 g h n n := by
  funext y
  rw [Bool.eq_iff_iff]
  simp only [set2, Bool.or_eq_true, setK_iff]
  constructor
  · exact fun h => .inr h
  · rintro (⟨i, hi, rfl⟩ | h)
    · exact ⟨n - 1 - i, by omega, e i hi⟩
    · exact h

structure Oc where
  w : World
  set : Int
  f : Int
  p : Nat
  m : Nat
  a : Option Addr
  c : Nat
  p2 : Nat
  m2 : Nat
  a2 : Option Addr
  c2 : Nat
  al : Option Addr
  cl : Nat

/-- The two barriers, and the members. -/
def TWO (x : Oc) (S T : Int → Bool) (E : List Pc) : List Pc :=
  BAR x.p x.m x.a x.c (memb x.set) x.f (stF (memb x.set) x.f S) 12 (stP (memb x.set) S) (.own 3 1 (.slice x.al (memb x.set).length x.cl) (memb x.set).length (iv (memb x.set)) ::
    BAR x.p2 x.m2 x.a2 x.c2 (memb x.set) x.f (stF (memb x.set) x.f T) 12 (stP (memb x.set) T) (E ++ [.old x.w no]))

theorem memb_ne (set : Int) : memb set ≠ [] := List.ne_nil_of_mem (memb_zero set)

section
variable {x : Oc} {S T : Int → Bool} {E : List Pc} {V : World}
theorem twoA (H : SL V (TWO x S T E)) (h0 : 0 ≤ x.f) (h1 : x.f < 12) {y : Int} (hy : y ∈ memb x.set) :
    Calls Try.prog 13 #[.pointer (some ⟨x.p, 0, none⟩), .int .i64 y, .int .i64 x.f] V fun e V' => (∃ b : Bool, e = .returned (.tuple #[.bool b, .int .i64 0])) ∧ SL V' (TWO x (fun z => S z || z == y) T E) := by
  obtain ⟨b, hb⟩ := pass_st (S := S) hy (memb_ne x.set) h1
  have := stF_bd (memb x.set) x.f S
  have hl := memb_len x.set
  refine (bPassed H (memb_ne x.set) (by omega) (by omega) (by omega) y x.f hb).mono ?_
  rintro e V' ⟨rfl, H2⟩
  exact ⟨⟨b, rfl⟩, H2⟩
theorem two_turn (H : SL V (TWO x S T E)) : SL V (BAR x.p2 x.m2 x.a2 x.c2 (memb x.set) x.f (stF (memb x.set) x.f T) 12 (stP (memb x.set) T) (BAR x.p x.m x.a x.c (memb x.set) x.f (stF (memb x.set) x.f S) 12 (stP (memb x.set) S) (.own 3 1 (.slice x.al (memb x.set).length x.cl) (memb x.set).length (iv (memb x.set)) :: (E ++ [.old x.w no])))) :=
  H.re (.step (.there (.there (.there (.there (.here _ _))))) (.step (.there (.there (.there (.there (.here _ _))))) (.step (.there (.there (.there (.there (.here _ _))))) (.same _))))
theorem two_back {ps2 : Int → Bool} {f2 : Int} (H : SL V (BAR x.p2 x.m2 x.a2 x.c2 (memb x.set) x.f f2 12 ps2 (BAR x.p x.m x.a x.c (memb x.set) x.f (stF (memb x.set) x.f S) 12 (stP (memb x.set) S) (.own 3 1 (.slice x.al (memb x.set).length x.cl) (memb x.set).length (iv (memb x.set)) :: (E ++ [.old x.w no]))))) (e1 : f2 = stF (memb x.set) x.f T) (e2 : ps2 = stP (memb x.set) T) : SL V (TWO x S T E) := by
  subst e1; subst e2
  exact H.re (.step (.there (.there (.there (.here _ _)))) (.step (.there (.there (.there (.here _ _)))) (.step (.there (.there (.there (.here _ _)))) (.step (.there (.there (.there (.here _ _)))) (.same _)))))
theorem twoB (H : SL V (TWO x S T E)) (h0 : 0 ≤ x.f) (h1 : x.f < 12) {y : Int} (hy : y ∈ memb x.set) :
    Calls Try.prog 13 #[.pointer (some ⟨x.p2, 0, none⟩), .int .i64 y, .int .i64 x.f] V fun e V' => (∃ b : Bool, e = .returned (.tuple #[.bool b, .int .i64 0])) ∧ SL V' (TWO x S (fun z => T z || z == y) E) := by
  obtain ⟨b, hb⟩ := pass_st (S := T) hy (memb_ne x.set) h1
  have := stF_bd (memb x.set) x.f T
  have hl := memb_len x.set
  refine (bPassed (two_turn H) (memb_ne x.set) (by omega) (by omega) (by omega) y x.f hb).mono ?_
  rintro e V' ⟨rfl, H2⟩
  exact ⟨⟨b, rfl⟩, two_back H2 rfl rfl⟩
theorem two_mem (H : SL V (TWO x S T E)) : RdI V x.al (memb x.set) := (OwnK.rdI (H.ownOf (.there (.there (.there (.here _ _)))))).2.2
theorem two_kp (H : SL V (TWO x S T E)) : Kp no x.w V := H.all (.old x.w no) (by simp [TWO, BAR])
end
end Go.Proofs.Ytejgkehcplajhaa
