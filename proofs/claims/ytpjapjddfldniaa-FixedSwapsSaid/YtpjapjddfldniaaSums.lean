/- The walks of fixed and mullionref01: within, checked, Add, Sub, Of, Floor, Clamp, and the document's. Each holds of all numbers. -/
import Derived.Test.YtpjapjddfldniaaRows
import Derived.Test.YtpjapjddfldniaaFrame
namespace Go.Proofs.Ytpjapjddfldniaa
open Go.RowKit

def inB (x : Int) : Bool := decide (-4611686018427387904 ≤ x) && decide (x ≤ 4611686018427387904)

theorem inB_iff {x : Int} : inB x = true ↔ -4611686018427387904 ≤ x ∧ x ≤ 4611686018427387904 := by simp [inB]
theorem inB_not {x : Int} : inB x = false ↔ x < -4611686018427387904 ∨ 4611686018427387904 < x := by
  rw [← Bool.not_eq_true, inB_iff]; omega

theorem within_c (b o len cap : Nat) (f : Nat → Int) (w : World) (hl : len ≤ 9223372036854775807)
    (hc : ∀ i, i < len → w.cell? ⟨b, o + i, none⟩ = some (.int .i64 (f i))) (r : Bool) (hr : r = true ↔ ∀ i, i < len → inB (f i) = true) :
    Calls Try.prog 22 #[.slice (some ⟨b, o, none⟩) len cap] w fun e w' => e = .returned (.bool r) ∧ w = w' := by
  have hc' := Lib.hid hc
  have hr' := Lib.hid hr
  clear hc hr
  go_enter Try.func22, Try.ntmps22
  go_wp2
  go_loop [7] (fun i => ∃ k : Nat, k ≤ len ∧ i = .int .i64 k ∧ Hid (∀ j, j < k → inB (f j) = true)) (fun i => len - (intOf i).toNat)
  case atStart => exact ⟨0, by omega, rfl, Lib.hid (fun j hj => by omega)⟩
  case round =>
    obtain ⟨k, hk, rfl, hp⟩ := hrel
    by_cases hlt : k < len
    · have hx := hc'.out k hlt
      obtain ⟨x, hfx⟩ : ∃ x, f k = x := ⟨_, rfl⟩
      rw [hfx] at hx
      by_cases h1 : x < -4611686018427387904
      · have hrf : r = false := by
          cases hrr : r with
          | false => rfl
          | true =>
            have := (hr'.out.1 hrr) k hlt
            rw [hfx, inB_iff] at this; omega
        subst hrf
        clear hfx
        go_wp2
        go_ret
        exact ⟨rfl, rfl⟩
      · by_cases h2 : 4611686018427387904 < x
        · have hrf : r = false := by
            cases hrr : r with
            | false => rfl
            | true =>
              have := (hr'.out.1 hrr) k hlt
              rw [hfx, inB_iff] at this; omega
          subst hrf
          clear hfx
          go_wp2
          go_ret
          exact ⟨rfl, rfl⟩
        · have hfx' := Lib.hid hfx
          clear hfx
          go_wp2
          go_round
          case rel =>
            refine ⟨k + 1, by omega, by go_num, Lib.hid (fun j hj => ?_)⟩
            by_cases hjk : j = k
            · subst hjk; rw [hfx'.out, inB_iff]; omega
            · exact hp.out j (by omega)
          case measure => simp [intOf]; omega
    · obtain rfl : k = len := by omega
      have hrt : r = true := hr'.out.2 hp.out
      subst hrt
      go_wp2
      go_ret
      exact ⟨rfl, rfl⟩

theorem within_nil (w : World) : Calls Try.prog 22 #[.slice none 0 0] w fun e w' => e = .returned (.bool true) ∧ w = w' := by
  go_enter Try.func22, Try.ntmps22
  go_wp2
  go_loop [7] (fun i => i = .int .i64 0) (fun _ => 0)
  case atStart => exact rfl
  case round =>
    obtain rfl := hrel
    go_wp2
    go_ret
    exact ⟨rfl, rfl⟩

theorem within1 (b : Nat) (x : Int) (w : World) (h0 : w.cell? ⟨b, 0, none⟩ = some (.int .i64 x)) (r : Bool) (hr : inB x = r) :
    Calls Try.prog 22 #[.slice (some ⟨b, 0, none⟩) 1 1] w fun e w' => e = .returned (.bool r) ∧ w = w' :=
  within_c b 0 1 1 (fun _ => x) w (by omega) (fun i hi => by obtain rfl : i = 0 := by omega
                                                             exact h0) r (by rw [← hr]; exact ⟨fun h _ _ => h, fun h => h 0 (by omega)⟩)

theorem within2 (b : Nat) (x y : Int) (w : World) (h0 : w.cell? ⟨b, 0, none⟩ = some (.int .i64 x)) (h1 : w.cell? ⟨b, 1, none⟩ = some (.int .i64 y)) (r : Bool) (hr : (inB x && inB y) = r) :
    Calls Try.prog 22 #[.slice (some ⟨b, 0, none⟩) 2 2] w fun e w' => e = .returned (.bool r) ∧ w = w' :=
  within_c b 0 2 2 (fun i => if i = 0 then x else y) w (by omega)
    (fun i hi => by
      rcases (by omega : i = 0 ∨ i = 1) with rfl | rfl
      · exact h0
      · exact h1) r (by
      rw [← hr, Bool.and_eq_true]
      constructor
      · rintro ⟨hx, hy⟩ i _
        by_cases h : i = 0 <;> simp [h, hx, hy]
      · intro h
        exact ⟨by simpa using h 0 (by omega), by simpa using h 1 (by omega)⟩)


def inV (n : Int) : Int := if inB n then n else 0
def inE (n : Int) : Int := if inB n then 0 else 10

theorem checked_c (n : Int) (w : World) :
    Calls Try.prog 23 #[.int .i64 n, .slice none 0 0] w fun e w' => e = .returned (.tuple #[.int .i64 (inV n), .int .i64 (inE n)]) ∧ Kp no w w' := by
  cases hn : inB n
  · go_enter Try.func23, Try.ntmps23
    go_wp2_with fail
    refine (within1 _ n _ (by simp [go_sem]) false hn).mono ?_
    rintro e w' ⟨rfl, rfl⟩
    go_wp2_with fail
    go_ret2
    exact ⟨by simp [inV, inE, hn], (Kp.refl _ _).alloc _⟩
  · go_enter Try.func23, Try.ntmps23
    go_wp2_with fail
    refine (within1 _ n _ (by simp [go_sem]) true hn).mono ?_
    rintro e w' ⟨rfl, rfl⟩
    go_wp2_with fail
    refine (within_nil _).mono ?_
    rintro e w' ⟨rfl, rfl⟩
    go_wp2_with fail
    go_ret2
    exact ⟨by simp [inV, inE, hn], (Kp.refl _ _).alloc _⟩

/-- The sum (or the difference, at -b) as the document has it. -/
def addV (a b : Int) : Int := if (inB a && inB b) && inB (a + b) then a + b else 0
def addE (a b : Int) : Int := if (inB a && inB b) && inB (a + b) then 0 else 10

theorem add_c (a b : Int) (w : World) :
    Calls Try.prog 7 #[.int .i64 a, .int .i64 b] w fun e w' => e = .returned (.tuple #[.int .i64 (addV a b), .int .i64 (addE a b)]) ∧ Kp no w w' := by
  cases hab : (inB a && inB b)
  · go_enter Try.func7, Try.ntmps7
    go_wp2_with fail
    refine (within2 _ a b _ (by simp [go_sem]) (by simp [go_sem]) false hab).mono ?_
    rintro e w' ⟨rfl, rfl⟩
    go_wp2_with fail
    go_ret2
    exact ⟨by simp [addV, addE, hab], (Kp.refl _ _).alloc _⟩
  · have h1 := hab
    rw [Bool.and_eq_true, inB_iff, inB_iff] at h1
    obtain ⟨⟨a1, a2⟩, b1, b2⟩ := h1
    by_cases hs : a + b = 9223372036854775808
    · obtain rfl : a = 4611686018427387904 := by omega
      obtain rfl : b = 4611686018427387904 := by omega
      go_enter Try.func7, Try.ntmps7
      go_wp2_with fail
      refine (within2 _ _ _ _ (by simp [go_sem]) (by simp [go_sem]) true hab).mono ?_
      rintro e w' ⟨rfl, rfl⟩
      go_wp2_with fail
      refine (checked_c _ _).mono ?_
      rintro e w' ⟨rfl, hk⟩
      go_wp2_with fail
      go_ret2
      exact ⟨ret_ii (by decide +kernel) (by decide +kernel), ((Kp.refl _ _).alloc _).trans hk⟩
    · have hs' := Lib.hid hs
      clear hs
      have hs2 : a + b ≤ 9223372036854775807 := by have := hs'.out; omega
      go_enter Try.func7, Try.ntmps7
      go_wp2_with fail
      refine (within2 _ a b _ (by simp [go_sem]) (by simp [go_sem]) true hab).mono ?_
      rintro e w' ⟨rfl, rfl⟩
      go_wp2_with fail
      refine (checked_c _ _).mono ?_
      rintro e w' ⟨rfl, hk⟩
      go_wp2_with fail
      go_ret2
      exact ⟨by simp [addV, addE, hab, inV, inE], ((Kp.refl _ _).alloc _).trans hk⟩

theorem inB_neg (b : Int) : inB (-b) = inB b := by
  rw [Bool.eq_iff_iff, inB_iff, inB_iff]; omega

theorem sub_c (a b : Int) (w : World) :
    Calls Try.prog 9 #[.int .i64 a, .int .i64 b] w fun e w' => e = .returned (.tuple #[.int .i64 (addV a (-b)), .int .i64 (addE a (-b))]) ∧ Kp no w w' := by
  cases hab : (inB a && inB b)
  · go_enter Try.func9, Try.ntmps9
    go_wp2_with fail
    refine (within2 _ a b _ (by simp [go_sem]) (by simp [go_sem]) false hab).mono ?_
    rintro e w' ⟨rfl, rfl⟩
    go_wp2_with fail
    go_ret2
    exact ⟨by simp [addV, addE, inB_neg, hab], (Kp.refl _ _).alloc _⟩
  · have h1 := hab
    rw [Bool.and_eq_true, inB_iff, inB_iff] at h1
    obtain ⟨⟨a1, a2⟩, b1, b2⟩ := h1
    by_cases hs : a - b = 9223372036854775808
    · obtain rfl : a = 4611686018427387904 := by omega
      obtain rfl : b = -4611686018427387904 := by omega
      go_enter Try.func9, Try.ntmps9
      go_wp2_with fail
      refine (within2 _ _ _ _ (by simp [go_sem]) (by simp [go_sem]) true hab).mono ?_
      rintro e w' ⟨rfl, rfl⟩
      go_wp2_with fail
      refine (checked_c _ _).mono ?_
      rintro e w' ⟨rfl, hk⟩
      go_wp2_with fail
      go_ret2
      exact ⟨ret_ii (by decide +kernel) (by decide +kernel), ((Kp.refl _ _).alloc _).trans hk⟩
    · have hs' := Lib.hid hs
      clear hs
      have hs2 : a - b ≤ 9223372036854775807 := by have := hs'.out; omega
      go_enter Try.func9, Try.ntmps9
      go_wp2_with fail
      refine (within2 _ a b _ (by simp [go_sem]) (by simp [go_sem]) true hab).mono ?_
      rintro e w' ⟨rfl, rfl⟩
      go_wp2_with fail
      refine (checked_c _ _).mono ?_
      rintro e w' ⟨rfl, hk⟩
      go_wp2_with fail
      go_ret2
      exact ⟨by simp [addV, addE, inB_neg, hab, inV, inE, Int.sub_eq_add_neg], ((Kp.refl _ _).alloc _).trans hk⟩

theorem may_c (a : Int) (w : World) : Calls Try.prog 24 #[.int .i64 a] w fun e w' => e = .returned (.bool (inB a)) ∧ w = w' := by
  go_enter Try.func24, Try.ntmps24
  go_wp2
  all_goals (go_ret; exact ⟨by simp [inB]; try omega, rfl⟩)

theorem refAdd_c (a b : Int) (w : World) :
    Calls Try.prog 8 #[.int .i64 a, .int .i64 b] w fun e w' => e = .returned (.tuple #[.int .i64 (addV a b), .int .i64 (addE a b)]) ∧ w = w' := by
  cases ha : inB a
  · go_enter Try.func8, Try.ntmps8
    go_wp2_with fail
    refine (may_c a _).mono ?_
    rintro e w' ⟨rfl, rfl⟩
    go_wp2_with fail
    refine (may_c b _).mono ?_
    rintro e w' ⟨rfl, rfl⟩
    go_wp2_with fail
    go_ret2
    exact ⟨by simp [addV, addE, ha], rfl⟩
  · cases hb : inB b
    · go_enter Try.func8, Try.ntmps8
      go_wp2_with fail
      refine (may_c a _).mono ?_
      rintro e w' ⟨rfl, rfl⟩
      go_wp2_with fail
      refine (may_c b _).mono ?_
      rintro e w' ⟨rfl, rfl⟩
      go_wp2_with fail
      go_ret2
      exact ⟨by simp [addV, addE, hb], rfl⟩
    · have h1 := ha
      have h2 := hb
      rw [inB_iff] at h1 h2
      obtain ⟨a1, a2⟩ := h1
      obtain ⟨b1, b2⟩ := h2
      have fin : addV a b = (if inB (a + b) then a + b else 0) ∧ addE a b = (if inB (a + b) then 0 else 10) := by simp [addV, addE, ha, hb]
      have fin' := Lib.hid fin
      clear fin
      by_cases hp : 0 < b
      · by_cases hq : 4611686018427387904 - b < a
        · have hs : inB (a + b) = false := by rw [inB_not]; omega
          have hs' := Lib.hid hs
          clear hs
          go_enter Try.func8, Try.ntmps8
          go_wp2_with fail
          refine (may_c a _).mono ?_
          rintro e w' ⟨rfl, rfl⟩
          go_wp2_with fail
          refine (may_c b _).mono ?_
          rintro e w' ⟨rfl, rfl⟩
          go_wp2_with fail
          go_ret2
          exact ⟨by rw [fin'.out.1, fin'.out.2, hs'.out]; rfl, rfl⟩
        · have hs : inB (a + b) = true := by rw [inB_iff]; omega
          have hs' := Lib.hid hs
          clear hs
          go_enter Try.func8, Try.ntmps8
          go_wp2_with fail
          refine (may_c a _).mono ?_
          rintro e w' ⟨rfl, rfl⟩
          go_wp2_with fail
          refine (may_c b _).mono ?_
          rintro e w' ⟨rfl, rfl⟩
          go_wp2_with fail
          go_ret2
          exact ⟨by rw [fin'.out.1, fin'.out.2, hs'.out]; rfl, rfl⟩
      · by_cases hn : b < 0
        · by_cases hq : a < -4611686018427387904 - b
          · have hs : inB (a + b) = false := by rw [inB_not]; omega
            have hs' := Lib.hid hs
            clear hs
            go_enter Try.func8, Try.ntmps8
            go_wp2_with fail
            refine (may_c a _).mono ?_
            rintro e w' ⟨rfl, rfl⟩
            go_wp2_with fail
            refine (may_c b _).mono ?_
            rintro e w' ⟨rfl, rfl⟩
            go_wp2_with fail
            go_ret2
            exact ⟨by rw [fin'.out.1, fin'.out.2, hs'.out]; rfl, rfl⟩
          · have hs : inB (a + b) = true := by rw [inB_iff]; omega
            have hs' := Lib.hid hs
            clear hs
            go_enter Try.func8, Try.ntmps8
            go_wp2_with fail
            refine (may_c a _).mono ?_
            rintro e w' ⟨rfl, rfl⟩
            go_wp2_with fail
            refine (may_c b _).mono ?_
            rintro e w' ⟨rfl, rfl⟩
            go_wp2_with fail
            go_ret2
            exact ⟨by rw [fin'.out.1, fin'.out.2, hs'.out]; rfl, rfl⟩
        · have hs : inB (a + b) = true := by rw [inB_iff]; omega
          have hs' := Lib.hid hs
          clear hs
          go_enter Try.func8, Try.ntmps8
          go_wp2_with fail
          refine (may_c a _).mono ?_
          rintro e w' ⟨rfl, rfl⟩
          go_wp2_with fail
          refine (may_c b _).mono ?_
          rintro e w' ⟨rfl, rfl⟩
          go_wp2_with fail
          go_ret2
          exact ⟨by rw [fin'.out.1, fin'.out.2, hs'.out]; rfl, rfl⟩

theorem refSub_c (a b : Int) (w : World) :
    Calls Try.prog 10 #[.int .i64 a, .int .i64 b] w fun e w' => e = .returned (.tuple #[.int .i64 (addV a (-b)), .int .i64 (addE a (-b))]) ∧ w = w' := by
  cases hb : inB b
  · go_enter Try.func10, Try.ntmps10
    go_wp2_with fail
    refine (may_c b _).mono ?_
    rintro e w' ⟨rfl, rfl⟩
    go_wp2_with fail
    go_ret2
    exact ⟨by simp [addV, addE, inB_neg, hb], rfl⟩
  · have h2 := hb
    rw [inB_iff] at h2
    obtain ⟨b1, b2⟩ := h2
    go_enter Try.func10, Try.ntmps10
    go_wp2_with fail
    refine (may_c b _).mono ?_
    rintro e w' ⟨rfl, rfl⟩
    go_wp2_with fail
    refine (refAdd_c a (-b) _).mono ?_
    rintro e w' ⟨rfl, rfl⟩
    go_wp2_with fail
    go_ret2
    exact ⟨rfl, rfl⟩

def ofV (n : Int) : Int := if n < -70368744177664 ∨ 70368744177664 < n then 0 else n * 65536
def ofE (n : Int) : Int := if n < -70368744177664 ∨ 70368744177664 < n then 10 else 0

theorem of_c (n : Int) (w : World) :
    Calls Try.prog 11 #[.int .i64 n] w fun e w' => e = .returned (.tuple #[.int .i64 (ofV n), .int .i64 (ofE n)]) ∧ w = w' := by
  by_cases h : n < -70368744177664
  · go_enter Try.func11, Try.ntmps11
    go_wp2
    go_ret2
    exact ⟨by simp [h, ofV, ofE], rfl⟩
  · by_cases h' : 70368744177664 < n
    · go_enter Try.func11, Try.ntmps11
      go_wp2
      go_ret2
      exact ⟨by simp [h', ofV, ofE], rfl⟩
    · go_enter Try.func11, Try.ntmps11
      go_wp2
      go_ret2
      exact ⟨by simp only [ofV, ofE]; rw [if_neg (by omega), if_neg (by omega)]; rfl, rfl⟩

theorem refOf_c (n : Int) (w : World) :
    Calls Try.prog 12 #[.int .i64 n] w fun e w' => e = .returned (.tuple #[.int .i64 (ofV n), .int .i64 (ofE n)]) ∧ w = w' := by
  by_cases h : n < -70368744177664
  · go_enter Try.func12, Try.ntmps12
    go_wp2
    go_ret2
    exact ⟨by simp [h, ofV, ofE], rfl⟩
  · by_cases h' : 70368744177664 < n
    · go_enter Try.func12, Try.ntmps12
      go_wp2
      go_ret2
      exact ⟨by simp [h', ofV, ofE], rfl⟩
    · go_enter Try.func12, Try.ntmps12
      go_wp2
      go_ret2
      exact ⟨by simp only [ofV, ofE]; rw [if_neg (by omega), if_neg (by omega)]; rfl, rfl⟩

theorem floor_c (a : Int) (w : World) : Calls Try.prog 13 #[.int .i64 a] w fun e w' => e = .returned (.int .i64 (a / 65536)) ∧ w = w' := by
  go_enter Try.func13, Try.ntmps13
  go_wp2
  go_ret
  exact ⟨ret_i (by first | rfl | simp [Int.fdiv_eq_ediv_of_nonneg]), rfl⟩

def clampF (a l h : Int) : Int := if a < l then l else min a h
theorem clamp_c (a l h : Int) (w : World) : Calls Try.prog 15 #[.int .i64 a, .int .i64 l, .int .i64 h] w fun e w' => e = .returned (.int .i64 (clampF a l h)) ∧ w = w' := by
  by_cases hl : a < l
  · go_enter Try.func15, Try.ntmps15
    go_wp2
    go_ret
    exact ⟨ret_i (by simp [clampF, hl]), rfl⟩
  · by_cases hh : h < a
    · go_enter Try.func15, Try.ntmps15
      go_wp2
      go_ret
      exact ⟨ret_i (by simp only [clampF]; first | done | omega), rfl⟩
    · go_enter Try.func15, Try.ntmps15
      go_wp2
      go_ret
      exact ⟨ret_i (by simp only [clampF]; first | done | omega), rfl⟩


theorem down_pos (a b q p : Int) (w : World) (ha : 0 ≤ a) (ha' : a ≤ 9223372036854775807) (hb : 1 ≤ b) (hq : a / b = q) (hp : q * b = p) (hp0 : 0 ≤ p) (hpa : p ≤ a) (_ : 0 ≤ q) (_ : q ≤ a) :
    Calls Try.prog 25 #[.int .i64 a, .int .i64 b] w fun e w' => e = .returned (.tuple #[.int .i64 q, .int .i64 (a - p)]) ∧ w = w' := by
  go_enter Try.func25, Try.ntmps25
  go_wp2
  go_ret2
  exact ⟨ret_ii hq (by omega), rfl⟩

theorem down_neg0 (a b q p : Int) (w : World) (ha : -9223372036854775808 ≤ a) (ha' : a < 0) (hb : 1 ≤ b) (hq : a.tdiv b = q) (hp : q * b = p) (hpa : a = p) (hq0 : q ≤ 0) (hqa : p ≤ q) :
    Calls Try.prog 25 #[.int .i64 a, .int .i64 b] w fun e w' => e = .returned (.tuple #[.int .i64 q, .int .i64 (a - p)]) ∧ w = w' := by
  subst hpa
  go_enter Try.func25, Try.ntmps25
  go_wp2
  go_ret2
  exact ⟨ret_ii rfl (by omega), rfl⟩

theorem down_neg (a b q p : Int) (w : World) (ha : -9223372036854775808 ≤ a) (ha' : a < 0) (hb : 1 ≤ b) (hb' : b ≤ 9223372036854775807) (hq : a.tdiv b = q) (hp : q * b = p) (hp0 : p ≤ 0) (hpa : a < p) (hr : p - b < a) (hq0 : q ≤ 0) (hqa : p ≤ q) :
    Calls Try.prog 25 #[.int .i64 a, .int .i64 b] w fun e w' => e = .returned (.tuple #[.int .i64 (q - 1), .int .i64 (a - p + b)]) ∧ w = w' := by
  go_enter Try.func25, Try.ntmps25
  go_wp2
  go_ret2
  exact ⟨rfl, rfl⟩

theorem down_c (a b : Int) (w : World) (ha : -9223372036854775808 ≤ a) (ha' : a ≤ 9223372036854775807) (hb : 1 ≤ b) (hb' : b ≤ 9223372036854775807) :
    Calls Try.prog 25 #[.int .i64 a, .int .i64 b] w fun e w' => e = .returned (.tuple #[.int .i64 (a / b), .int .i64 (a % b)]) ∧ w = w' := by
  have e1 : b * (a / b) + a % b = a := Int.mul_ediv_add_emod a b
  have e2 := Int.emod_nonneg a (show b ≠ 0 by omega)
  have e3 := Int.emod_lt_of_pos a (show 0 < b by omega)
  rw [Int.mul_comm] at e1
  by_cases hp : 0 ≤ a
  · have q0 : 0 ≤ a / b := Int.ediv_nonneg hp (by omega)
    have q1 : a / b ≤ a / b * b := by have := Int.mul_le_mul_of_nonneg_left hb q0; omega
    refine (down_pos a b (a / b) (a / b * b) w hp ha' hb rfl rfl (by omega) (by omega) q0 (by omega)).mono ?_
    rintro e w' ⟨rfl, rfl⟩
    exact ⟨ret_ii rfl (by omega), rfl⟩
  · have t1 := Int.mul_tdiv_add_tmod a b
    rw [Int.mul_comm] at t1
    have t2 : a.tmod b = -((-a) % b) := by
      rw [← Int.tmod_eq_emod_of_nonneg (show 0 ≤ -a by omega), Int.neg_tmod]; omega
    have t3 := Int.emod_nonneg (-a) (show b ≠ 0 by omega)
    have t4 := Int.emod_lt_of_pos (-a) (show 0 < b by omega)
    have t5 : a.tdiv b ≤ 0 := by
      have : a.tdiv b = -((-a) / b) := by rw [← Int.tdiv_eq_ediv_of_nonneg (show 0 ≤ -a by omega), Int.neg_tdiv]; omega
      have := Int.ediv_nonneg (show 0 ≤ -a by omega) (show 0 ≤ b by omega)
      omega
    have t6 : a.tdiv b * b ≤ a.tdiv b := by have := Int.mul_le_mul_of_nonneg_left hb (show 0 ≤ -a.tdiv b by omega); rw [Int.neg_mul, Int.neg_mul] at this; omega
    by_cases hr : (-a) % b = 0
    · refine (down_neg0 a b (a.tdiv b) (a.tdiv b * b) w ha (by omega) hb rfl rfl (by omega) t5 (by omega)).mono ?_
      rintro e w' ⟨rfl, rfl⟩
      have hd : a % b = 0 := by
        have := Int.emod_emod_of_dvd
        rw [Int.neg_emod] at hr
        split at hr
        · rename_i hdv; exact Int.emod_eq_zero_of_dvd hdv
        · omega
      exact ⟨ret_ii (by
        have h : a.tdiv b * b = a / b * b := by omega
        exact Int.eq_of_mul_eq_mul_right (by omega) h) (by omega), rfl⟩
    · have hk : a.tdiv b * b - b < a := by omega
      have hz : a.tdiv b * b > a := by omega
      refine (down_neg a b (a.tdiv b) (a.tdiv b * b) w ha (by omega) hb hb' rfl rfl (by omega) (by omega) hk t5 (by omega)).mono ?_
      rintro e w' ⟨rfl, rfl⟩
      have h1 : a % b = a.tmod b + b := by
        rw [t2]
        have hn := @Int.neg_emod (-a) b
        rw [Int.neg_neg] at hn
        rw [if_neg (fun hdv => hr (Int.emod_eq_zero_of_dvd hdv))] at hn
        rw [hn]
        rw [Int.natAbs_of_nonneg (by omega)]; omega
      have h2 : (a.tdiv b - 1) * b = a / b * b := by rw [Int.sub_mul]; omega
      exact ⟨ret_ii (Int.eq_of_mul_eq_mul_right (by omega) h2) (by omega), rfl⟩

theorem refFloor_c (a : Int) (w : World) (ha : -9223372036854775808 ≤ a) (ha' : a ≤ 9223372036854775807) : Calls Try.prog 14 #[.int .i64 a] w fun e w' => e = .returned (.int .i64 (a / 65536)) ∧ w = w' := by
  go_enter Try.func14, Try.ntmps14
  go_wp2_with fail
  refine (down_c a 65536 _ ha ha' (by omega) (by omega)).mono ?_
  rintro e w' ⟨rfl, rfl⟩
  go_wp2_with fail
  go_ret
  exact ⟨rfl, rfl⟩

theorem fixedSums_c (a b c : Int) (w : World) (ha : -9223372036854775808 ≤ a) (ha' : a ≤ 9223372036854775807) :
    Calls Try.prog 3 #[.int .i64 a, .int .i64 b, .int .i64 c] w fun e w' => e = .returned (.bool true) ∧ Kp no w w' := by
  have hcases : (a < b ∧ Hid (clampF a b c = b)) ∨ (¬ a < b ∧ c < a ∧ Hid (clampF a b c = c)) ∨ (¬ a < b ∧ ¬ c < a ∧ Hid (clampF a b c = a)) := by
    by_cases h1 : a < b
    · exact .inl ⟨h1, Lib.hid (by simp [clampF, h1])⟩
    · by_cases h2 : c < a
      · exact .inr (.inl ⟨h1, h2, Lib.hid (by simp only [clampF]; omega)⟩)
      · exact .inr (.inr ⟨h1, h2, Lib.hid (by simp only [clampF]; omega)⟩)
  rcases hcases with ⟨h1, hcl⟩ | ⟨h1, h2, hcl⟩ | ⟨h1, h2, hcl⟩
  all_goals
    go_enter Try.func3, Try.ntmps3
    go_wp2_with fail
    refine (add_c a b _).mono ?_
    rintro e w1 ⟨rfl, k1⟩
    go_wp2_with fail
    refine (refAdd_c a b _).mono ?_
    rintro e w' ⟨rfl, rfl⟩
    go_wp2_with fail
    refine (sub_c a b _).mono ?_
    rintro e w2 ⟨rfl, k2⟩
    go_wp2_with fail
    refine (refSub_c a b _).mono ?_
    rintro e w' ⟨rfl, rfl⟩
    go_wp2_with fail
    refine (of_c a _).mono ?_
    rintro e w' ⟨rfl, rfl⟩
    go_wp2_with fail
    refine (refOf_c a _).mono ?_
    rintro e w' ⟨rfl, rfl⟩
    go_wp2_with fail
    refine (floor_c a _).mono ?_
    rintro e w' ⟨rfl, rfl⟩
    go_wp2_with fail
    refine (refFloor_c a _ ha ha').mono ?_
    rintro e w' ⟨rfl, rfl⟩
    go_wp2_with fail
    refine (clamp_c a b c _).mono ?_
    rintro e w' ⟨rfl, rfl⟩
    rw [hcl.out]
    go_wp2_with fail
    go_ret
    exact ⟨ret_b (by simp), k1.trans k2⟩

theorem bounds64 {a : Int} (h : (Lit.int .i64 a).wf = true) : -9223372036854775808 ≤ a ∧ a ≤ 9223372036854775807 := by
  simp [Lit.wf, IntKind.min, IntKind.max, IntKind.signed, IntKind.bits] at h
  omega

theorem fixedSums_w (a b c : Int) (w : World) (ha : (Lit.int .i64 a).wf = true) (_ : (Lit.int .i64 b).wf = true) (_ : (Lit.int .i64 c).wf = true) :
    Calls Try.prog 3 #[.int .i64 a, .int .i64 b, .int .i64 c] w fun e w' => e = .returned (.bool true) ∧ Below w.heap.size w w' :=
  (fixedSums_c a b c w (bounds64 ha).1 (bounds64 ha).2).mono fun _ _ h => ⟨h.1, h.2.self_below⟩

end Go.Proofs.Ytpjapjddfldniaa
