/- The walk of the reference's Both (printed by genrefb.py). -/
import Derived.Test.YtkoajbmomipjkaaDoorRefM
namespace Go.Proofs.YtkoajbmomipjkaaDoor
open Go.RowKit
set_option linter.unusedVariables false

/-! ### Both -/
def mkM (f : Nat → Bool) (R : Nat) : Nat → Nat
  | 0 => 0
  | i + 1 => mkM f R i + if f (R + 1 + i) = true then 2 ^ i else 0
theorem mkM_lt (f : Nat → Bool) (R : Nat) : ∀ i, mkM f R i < 2 ^ i
  | 0 => by simp [mkM]
  | i + 1 => by
    have := mkM_lt f R i
    rw [mkM, Nat.pow_succ]
    split <;> omega
theorem mkM_bit (f : Nat → Bool) (R : Nat) : ∀ i j, (mkM f R i).testBit j = (decide (j < i) && f (R + 1 + j))
  | 0, j => by simp [mkM]
  | i + 1, j => by
    have hlt := mkM_lt f R i
    have ih := mkM_bit f R i j
    have e : mkM f R (i + 1) = 2 ^ i * (if f (R + 1 + i) = true then 1 else 0) + mkM f R i := by
      rw [mkM]; split <;> simp <;> omega
    rw [e, Nat.testBit_two_pow_mul_add _ hlt]
    split
    · next h => rw [ih, decide_eq_true h, decide_eq_true (by omega : j < i + 1)]
    · next h =>
      by_cases hj : j = i
      · subst hj
        rw [Nat.sub_self, decide_eq_true (by omega : j < j + 1), Bool.true_and]
        cases f (R + 1 + j) <;> simp
      · rw [decide_eq_false (by omega : ¬ j < i + 1), Bool.false_and]
        have : j - i ≠ 0 := by omega
        split
        · exact Nat.testBit_lt_two_pow (Nat.one_lt_two_pow this)
        · simp

/-- A mask that is being made. -/
structure MaskR (f : Nat → Bool) (R i m p : Nat) : Prop where
  hm : m = mkM f R i
  hp : p = 2 ^ i
theorem MaskR.start (f : Nat → Bool) (R : Nat) : MaskR f R 0 0 1 := ⟨rfl, rfl⟩
theorem MaskR.set {f : Nat → Bool} {R i m p : Nat} (h : MaskR f R i m p) (hf : f (R + 1 + i) = true) : MaskR f R (i + 1) (m + p) (2 * p) :=
  ⟨by rw [mkM, if_pos hf, h.hm, h.hp], by rw [h.hp, Nat.pow_succ]; omega⟩
theorem MaskR.skip {f : Nat → Bool} {R i m p : Nat} (h : MaskR f R i m p) (hf : f (R + 1 + i) = false) : MaskR f R (i + 1) m (2 * p) :=
  ⟨by rw [mkM, if_neg (by rw [hf]; simp), h.hm]; rfl, by rw [h.hp, Nat.pow_succ]; omega⟩
theorem MaskR.bound {f : Nat → Bool} {R i m p : Nat} (h : MaskR f R i m p) (hi : i < 63) : p ≤ 4611686018427387904 ∧ m ≤ 4611686018427387903 := by
  have h1 := mkM_lt f R i
  have h2 : 2 ^ i ≤ 2 ^ 62 := Nat.pow_le_pow_right (by decide) (by omega)
  rw [← h.hm] at h1
  rw [← h.hp] at h1 h2
  omega
theorem MaskR.fin {f : Nat → Bool} {R m p : Nat} (h : MaskR f R 63 m p) (hR : ∀ k, k < R → f k = true) (hn : f R = false) (hfar : ∀ k, R + 64 ≤ k → f k = false) :
    ∃ z : BitVec 64, (m : Int) = U z ∧ z.getLsbD 63 = false ∧ ∀ k, metM R z k = f k := by
  have h1 := mkM_lt f R 63
  rw [← h.hm] at h1
  have hb : ∀ j, (BitVec.ofNat 64 m).getLsbD j = (decide (j < 63) && f (R + 1 + j)) := fun j => by
    rw [BitVec.getLsbD_ofNat, h.hm, mkM_bit]
    by_cases hj : j < 64
    · simp [hj]
    · simp [hj]; omega
  refine ⟨BitVec.ofNat 64 m, ?_, ?_, fun k => ?_⟩
  · unfold U; rw [BitVec.toNat_ofNat]; omega
  · rw [hb]; rfl
  · unfold metM
    rw [hb]
    rcases Nat.lt_trichotomy k R with h2 | h2 | h2
    · rw [decide_eq_true h2, hR k h2]; rfl
    · subst h2; rw [hn, decide_eq_false (by omega : ¬ k < k)]; rfl
    · rw [decide_eq_false (by omega : ¬ k < R), decide_eq_true h2, Bool.false_or, Bool.true_and, show R + 1 + (k - R - 1) = k by omega]
      by_cases h3 : k - R - 1 < 63
      · rw [decide_eq_true h3, Bool.true_and]
      · rw [decide_eq_false h3, hfar k (by omega)]; rfl

/-- What one of two states has met, and a number. -/
def bothF (N : Nat) (x : BitVec 64) (M : Nat) (y : BitVec 64) (n : Nat) (mt : Bool) (k : Nat) : Bool := metM N x k || metM M y k || (mt && decide (k = n))
/-- The numbers from a greatest next on are met so far. -/
structure UpR (f : Nat → Bool) (R0 k : Nat) : Prop where
  all : ∀ j, j < R0 + k → f j = true
theorem UpR.step {f : Nat → Bool} {R0 k : Nat} (h : UpR f R0 k) (hf : f (R0 + k) = true) : UpR f R0 (k + 1) := ⟨fun j hj => by
  rcases Nat.lt_or_ge j (R0 + k) with h1 | h1
  · exact h.all j h1
  · obtain rfl : j = R0 + k := by omega
    exact hf⟩
theorem UpR.small {f : Nat → Bool} {R0 k : Nat} (h : UpR f R0 k) (hfar : ∀ k, R0 + 64 ≤ k → f k = false) : k ≤ 64 := by
  rcases Nat.lt_or_ge 64 k with h1 | h1
  · have := h.all (R0 + 64) (by omega)
    rw [hfar _ (by omega)] at this; cases this
  · exact h1
theorem met_far {N k : Nat} {x : BitVec 64} (hx : x.getLsbD 63 = false) (h : N + 64 ≤ k) : metM N x k = false := by
  unfold metM
  rw [decide_eq_false (by omega : ¬ k < N)]
  have : x.getLsbD (k - N - 1) = false := by
    rcases Nat.lt_or_ge (k - N - 1) 64 with h1 | h1
    · have : k - N - 1 = 63 := by omega
      rw [this]; exact hx
    · exact BitVec.getLsbD_of_ge _ _ h1
  rw [this]; simp

set_option maxRecDepth 10000 in
set_option maxHeartbeats 8000000 in
theorem refBoth_c (N : Nat) (x : BitVec 64) (M : Nat) (y : BitVec 64) (n : Nat) (mt : Bool) (hN : N ≤ 4611686018427387904) (hM : M ≤ 4611686018427387904) (hx : x.getLsbD 63 = false) (hy : y.getLsbD 63 = false) (hn : n < max N M + 64) (w : World) :
    Calls Tryd.prog 42 #[.agg #[.int .u64 N, .int .u64 (U x)], .agg #[.int .u64 M, .int .u64 (U y)], .int .u64 n, .bool mt] w fun e w' =>
      ∃ (R : Nat) (z : BitVec 64), e = .returned (.agg #[.int .u64 R, .int .u64 (U z)]) ∧ z.getLsbD 63 = false ∧ (∀ k, metM R z k = bothF N x M y n mt k) ∧ Kp no w w' := by
  obtain ⟨R0, hR0⟩ : ∃ R0, max N M = R0 := ⟨_, rfl⟩
  rw [hR0] at hn
  have b1 : R0 ≤ 4611686018427387904 := by omega
  have hfar : Hid (∀ k, R0 + 64 ≤ k → bothF N x M y n mt k = false) := Lib.hid (fun k hk => by
    unfold bothF
    rw [met_far hx (by omega), met_far hy (by omega), decide_eq_false (by omega : ¬ k = n)]
    simp)
  have hup : Hid (UpR (bothF N x M y n mt) R0 0) := Lib.hid ⟨fun j hj => by
    unfold bothF
    have : j < N ∨ j < M := by omega
    rcases this with h | h
    · have : metM N x j = true := by unfold metM; rw [decide_eq_true h]; rfl
      rw [this]; rfl
    · have : metM M y j = true := by unfold metM; rw [decide_eq_true h]; rfl
      rw [this]; simp⟩
  have hHa := Lib.hid (fun k (hk : k ≤ 18446744073709551615) V => refHas_c N k x hk V)
  have hHb := Lib.hid (fun k (hk : k ≤ 18446744073709551615) V => refHas_c M k y hk V)
  have hf : Hid (∀ k, bothF N x M y n mt k = (metM N x k || metM M y k || (mt && decide (k = n)))) := Lib.hid (fun k => rfl)
  obtain ⟨f, hfe⟩ : ∃ f, bothF N x M y n mt = f := ⟨_, rfl⟩
  rw [hfe] at hfar hup hf
  have hfe' := Lib.hid hfe
  have hn2 : n ≤ 4611686018427389000 := by omega
  have h1 := (((SL.start w).alloc [.int .u64 N, .int .u64 (U x)] 50).alloc [.int .u64 M, .int .u64 (U y)] 50).alloc [.int .u64 0, .int .u64 0] 50
  have hs1 : (w.alloc (.cells [Value.int .u64 N, .int .u64 (U x)].toArray 50)).heap.size = w.heap.size + 1 := by simp
  have hs2 : ((w.alloc (.cells [Value.int .u64 N, .int .u64 (U x)].toArray 50)).alloc (.cells [Value.int .u64 M, .int .u64 (U y)].toArray 50)).heap.size = w.heap.size + 1 + 1 := by simp
  rw [hs1, hs2] at h1
  have hH := Lib.hid h1
  clear h1 hs1 hs2 hx hy hn hfe
  go_enter Tryd.func42, Tryd.ntmps42
  by_cases hlt : N < M
  · obtain rfl : R0 = M := by omega
    have d1 : N < R0 := hlt
    clear hR0 hlt
    go_wp2_with fail
    generalize ((w.alloc (.cells #[.int .u64 N, .int .u64 (U x)] 50)).alloc (.cells #[.int .u64 R0, .int .u64 (U y)] 50)).alloc (.cells #[.int .u64 0, .int .u64 0] 50) = w3 at *
    generalize w.heap.size + 1 + 1 = b8 at *
    generalize w.heap.size + 1 = b5 at *
    generalize w.heap.size = b4 at *
    go_loopw [10, 9] (fun t s V => ∃ k : Nat, k ≤ 64 ∧ t = .int .i64 (k : Int) ∧ s = .int .u64 ((R0 + k : Nat) : Int) ∧ UpR f R0 k ∧ SL V [.blk b8 [.int .u64 0, .int .u64 0] 50, .blk b5 [.int .u64 R0, .int .u64 (U y)] 50, .blk b4 [.int .u64 N, .int .u64 (U x)] 50, .old w no]) (fun t _ _ => 200 - (intOf t).toNat)
    case atStart => exact ⟨0, by omega, rfl, rfl, hup.out, hH.out⟩
    case round =>
      clear hH hup
      obtain ⟨k, hk, rfl, rfl, hu, H⟩ := hrel
      have hk2 : k ≤ 199 := by omega
      obtain ⟨r, hr⟩ : ∃ r, R0 + k = r := ⟨_, rfl⟩
      have hr2 : r ≤ 4611686018427389000 := by omega
      have hr3 : R0 ≤ r := by omega
      rw [hr]
      have hstep := Lib.hid (fun h => hu.step h)
      rw [hr] at hstep
      have hall := Lib.hid hu.all
      rw [hr] at hall
      have hr' := Lib.hid hr
      have hca := Lib.hid (fun V => hHa.out r (by omega) V)
      have hcb := Lib.hid (fun V => hHb.out r (by omega) V)
      have hH := Lib.hid H
      clear H hu hr
      have c0 := hH.out.cell (o := 0) (.there (.here _ _)) rfl
      have c1 := hH.out.cell (o := 1) (.there (.here _ _)) rfl
      have c2 := hH.out.cell (o := 0) (.there (.there (.here _ _))) rfl
      have c3 := hH.out.cell (o := 1) (.there (.there (.here _ _))) rfl
      cases h1v : metM N x r with
      | true =>
        have hfv : Hid (f r = true) := Lib.hid (by rw [hf.out, h1v]; simp)
        have hst := Lib.hid (hstep.out hfv.out)
        have hkk := Lib.hid (hst.out.small hfar.out)
        have hca2 := hca
        have hcb2 := hcb
        clear hca hcb
        rw [h1v] at hca2
        go_wp2_with fail
        refine (hca2.out _).mono ?_
        rintro e w4 ⟨rfl, k4⟩
        have hH4 := Lib.hid (hH.out.quiet k4)
        have g0 := hH4.out.cell (o := 0) (.there (.here _ _)) rfl
        have g1 := hH4.out.cell (o := 1) (.there (.here _ _)) rfl
        have g2 := hH4.out.cell (o := 0) (.there (.there (.here _ _))) rfl
        have g3 := hH4.out.cell (o := 1) (.there (.there (.here _ _))) rfl
        clear k4 hH hca2 c0 c1 c2 c3
        go_wp2_with fail
        refine (hcb2.out _).mono ?_
        rintro e w5 ⟨rfl, k5⟩
        have hH5 := Lib.hid (hH4.out.quiet k5)
        clear k5 hH4 hcb2 g0 g1 g2 g3
        clear hfv hstep hall
        go_wp2_with fail
        go_roundw
        case rel => exact ⟨k + 1, hkk.out, by go_num, by rw [show R0 + (k + 1) = r + 1 by have := hr'.out; omega]; go_num, hst.out, hH5.out⟩
        case measure => (simp [intOf]; try omega)
      | false =>
        cases h2v : metM R0 y r with
        | true =>
          have hfv : Hid (f r = true) := Lib.hid (by rw [hf.out, h1v, h2v]; simp)
          have hst := Lib.hid (hstep.out hfv.out)
          have hkk := Lib.hid (hst.out.small hfar.out)
          have hca2 := hca
          have hcb2 := hcb
          clear hca hcb
          rw [h1v] at hca2
          rw [h2v] at hcb2
          go_wp2_with fail
          refine (hca2.out _).mono ?_
          rintro e w4 ⟨rfl, k4⟩
          have hH4 := Lib.hid (hH.out.quiet k4)
          have g0 := hH4.out.cell (o := 0) (.there (.here _ _)) rfl
          have g1 := hH4.out.cell (o := 1) (.there (.here _ _)) rfl
          have g2 := hH4.out.cell (o := 0) (.there (.there (.here _ _))) rfl
          have g3 := hH4.out.cell (o := 1) (.there (.there (.here _ _))) rfl
          clear k4 hH hca2 c0 c1 c2 c3
          go_wp2_with fail
          refine (hcb2.out _).mono ?_
          rintro e w5 ⟨rfl, k5⟩
          have hH5 := Lib.hid (hH4.out.quiet k5)
          clear k5 hH4 hcb2 g0 g1 g2 g3
          clear hfv hstep hall
          go_wp2_with fail
          go_roundw
          case rel => exact ⟨k + 1, hkk.out, by go_num, by rw [show R0 + (k + 1) = r + 1 by have := hr'.out; omega]; go_num, hst.out, hH5.out⟩
          case measure => (simp [intOf]; try omega)
        | false =>
          cases mt with
          | false =>
            have hfv : Hid (f r = false) := Lib.hid (by rw [hf.out, h1v, h2v]; simp)
            have hnot := Lib.hid hfv.out
            have hfr := Lib.hid (fun k (h : r + 64 ≤ k) => hfar.out k (by omega))
            clear hfv hstep hfar hr'
            have hca2 := hca
            have hcb2 := hcb
            clear hca hcb
            rw [h1v] at hca2
            rw [h2v] at hcb2
            go_wp2_with fail
            refine (hca2.out _).mono ?_
            rintro e w4 ⟨rfl, k4⟩
            have hH4 := Lib.hid (hH.out.quiet k4)
            have g0 := hH4.out.cell (o := 0) (.there (.here _ _)) rfl
            have g1 := hH4.out.cell (o := 1) (.there (.here _ _)) rfl
            have g2 := hH4.out.cell (o := 0) (.there (.there (.here _ _))) rfl
            have g3 := hH4.out.cell (o := 1) (.there (.there (.here _ _))) rfl
            clear k4 hH hca2 c0 c1 c2 c3
            go_wp2_with fail
            refine (hcb2.out _).mono ?_
            rintro e w5 ⟨rfl, k5⟩
            have hH5 := Lib.hid (hH4.out.quiet k5)
            clear k5 hH4 hcb2 g0 g1 g2 g3
            go_wp2_with fail
            go_loopw [15, 14, 13] (fun t q s V => ∃ (i m v : Nat), i ≤ 63 ∧ t = .int .u64 (i : Int) ∧ q = .int .u64 (v : Int) ∧ s = .int .u64 (m : Int) ∧ MaskR f r i m v ∧ SL V [.blk b8 [.int .u64 0, .int .u64 0] 50, .blk b5 [.int .u64 R0, .int .u64 (U y)] 50, .blk b4 [.int .u64 N, .int .u64 (U x)] 50, .old w no]) (fun t _ _ _ => 63 - (intOf t).toNat)
            case atStart => exact ⟨0, 0, 1, by omega, rfl, rfl, rfl, MaskR.start f r, hH5.out⟩
            case round =>
              clear hH5
              obtain ⟨i, m, v, hi, rfl, rfl, rfl, hm, H⟩ := hrel
              by_cases hi3 : i < 63
              · obtain ⟨b2, b3⟩ := hm.bound hi3
                obtain ⟨g, hg⟩ : ∃ g, r + 1 + i = g := ⟨_, rfl⟩
                have eg : (r : Int) + 1 + i = (g : Int) := by omega
                have hg2 : g ≤ 4611686018427389100 := by omega
                have hset := Lib.hid (fun h => hm.set h)
                have hskip := Lib.hid (fun h => hm.skip h)
                rw [hg] at hset hskip
                have hca := Lib.hid (fun V => hHa.out g (by omega) V)
                have hcb := Lib.hid (fun V => hHb.out g (by omega) V)
                have hH := Lib.hid H
                clear H hm hg
                have c0 := hH.out.cell (o := 0) (.there (.here _ _)) rfl
                have c1 := hH.out.cell (o := 1) (.there (.here _ _)) rfl
                have c2 := hH.out.cell (o := 0) (.there (.there (.here _ _))) rfl
                have c3 := hH.out.cell (o := 1) (.there (.there (.here _ _))) rfl
                cases h1v : metM N x g with
                | true =>
                  have hfv : Hid (f g = true) := Lib.hid (by rw [hf.out, h1v]; simp)
                  have hms := Lib.hid (hset.out hfv.out)
                  clear hfv hset hskip
                  have hca2 := hca
                  have hcb2 := hcb
                  clear hca hcb
                  rw [h1v] at hca2
                  go_wp2_with fail
                  refine (hca2.out _).mono ?_
                  rintro e w4 ⟨rfl, k4⟩
                  have hH4 := Lib.hid (hH.out.quiet k4)
                  have g0 := hH4.out.cell (o := 0) (.there (.here _ _)) rfl
                  have g1 := hH4.out.cell (o := 1) (.there (.here _ _)) rfl
                  have g2 := hH4.out.cell (o := 0) (.there (.there (.here _ _))) rfl
                  have g3 := hH4.out.cell (o := 1) (.there (.there (.here _ _))) rfl
                  clear k4 hH hca2 c0 c1 c2 c3
                  go_wp2_with fail
                  refine (hcb2.out _).mono ?_
                  rintro e w5 ⟨rfl, k5⟩
                  have hH5 := Lib.hid (hH4.out.quiet k5)
                  clear k5 hH4 hcb2 g0 g1 g2 g3
                  go_wp2_with fail
                  go_roundw
                  case rel => exact ⟨i + 1, m + v, 2 * v, by omega, by go_num, by go_num, by go_num, hms.out, hH5.out⟩
                  case measure => (simp [intOf]; try omega)
                | false =>
                  cases h2v : metM R0 y g with
                  | true =>
                    have hfv : Hid (f g = true) := Lib.hid (by rw [hf.out, h1v, h2v]; simp)
                    have hms := Lib.hid (hset.out hfv.out)
                    clear hfv hset hskip
                    have hca2 := hca
                    have hcb2 := hcb
                    clear hca hcb
                    rw [h1v] at hca2
                    rw [h2v] at hcb2
                    go_wp2_with fail
                    refine (hca2.out _).mono ?_
                    rintro e w4 ⟨rfl, k4⟩
                    have hH4 := Lib.hid (hH.out.quiet k4)
                    have g0 := hH4.out.cell (o := 0) (.there (.here _ _)) rfl
                    have g1 := hH4.out.cell (o := 1) (.there (.here _ _)) rfl
                    have g2 := hH4.out.cell (o := 0) (.there (.there (.here _ _))) rfl
                    have g3 := hH4.out.cell (o := 1) (.there (.there (.here _ _))) rfl
                    clear k4 hH hca2 c0 c1 c2 c3
                    go_wp2_with fail
                    refine (hcb2.out _).mono ?_
                    rintro e w5 ⟨rfl, k5⟩
                    have hH5 := Lib.hid (hH4.out.quiet k5)
                    clear k5 hH4 hcb2 g0 g1 g2 g3
                    go_wp2_with fail
                    go_roundw
                    case rel => exact ⟨i + 1, m + v, 2 * v, by omega, by go_num, by go_num, by go_num, hms.out, hH5.out⟩
                    case measure => (simp [intOf]; try omega)
                  | false =>
                    have hfv : Hid (f g = false) := Lib.hid (by rw [hf.out, h1v, h2v]; simp)
                    have hms := Lib.hid (hskip.out hfv.out)
                    clear hfv hset hskip
                    have hca2 := hca
                    have hcb2 := hcb
                    clear hca hcb
                    rw [h1v] at hca2
                    rw [h2v] at hcb2
                    go_wp2_with fail
                    refine (hca2.out _).mono ?_
                    rintro e w4 ⟨rfl, k4⟩
                    have hH4 := Lib.hid (hH.out.quiet k4)
                    have g0 := hH4.out.cell (o := 0) (.there (.here _ _)) rfl
                    have g1 := hH4.out.cell (o := 1) (.there (.here _ _)) rfl
                    have g2 := hH4.out.cell (o := 0) (.there (.there (.here _ _))) rfl
                    have g3 := hH4.out.cell (o := 1) (.there (.there (.here _ _))) rfl
                    clear k4 hH hca2 c0 c1 c2 c3
                    go_wp2_with fail
                    refine (hcb2.out _).mono ?_
                    rintro e w5 ⟨rfl, k5⟩
                    have hH5 := Lib.hid (hH4.out.quiet k5)
                    clear k5 hH4 hcb2 g0 g1 g2 g3
                    go_wp2_with fail
                    go_roundw
                    case rel => exact ⟨i + 1, m, 2 * v, by omega, by go_num, by go_num, rfl, hms.out, hH5.out⟩
                    case measure => (simp [intOf]; try omega)
              · obtain rfl : i = 63 := by omega
                obtain ⟨z, hz, hz63, hzk⟩ := hm.fin hall.out hnot.out hfr.out
                rw [hz]
                have h6 := (H.setCell 0 (.int .u64 r)).setCell 1 (.int .u64 (U z))
                have hH6 := Lib.hid h6
                have fz := fun o => H.free (.here _ _) o
                have z0 := H.cell (o := 0) (.here _ _) rfl
                have z1 := H.cell (o := 1) (.here _ _) rfl
                have hzk' := Lib.hid hzk
                have hz' := Lib.hid hz63
                clear hm hz h6 hzk hz63 hi3
                go_wp2_with fail
                generalize (wr.setCell ⟨b8, 0, none⟩ (.int .u64 r)).setCell ⟨b8, 1, none⟩ (.int .u64 (U z)) = w6 at *
                have k0 := hH6.out.cell (o := 0) (.here _ _) rfl
                have k1 := hH6.out.cell (o := 1) (.here _ _) rfl
                refine bodyPost_ret (v := .agg #[.int .u64 r, .int .u64 (U z)]) ?_ rfl ?_
                · simp [results, Tryd.results42, go_sem, k0, k1]
                · exact ⟨r, z, rfl, hz'.out, by rw [hfe'.out]; exact hzk'.out, hH6.out.kp (.there (.there (.there (.here _ _))))⟩
          | true =>
            by_cases heq : r = n
            · have heqv : ((n : Int) == (r : Nat)) = true := by simp; omega
              have hfv : Hid (f r = true) := Lib.hid (by rw [hf.out, h1v, h2v, decide_eq_true heq]; simp)
              clear heq
              have hst := Lib.hid (hstep.out hfv.out)
              have hkk := Lib.hid (hst.out.small hfar.out)
              have hca2 := hca
              have hcb2 := hcb
              clear hca hcb
              rw [h1v] at hca2
              rw [h2v] at hcb2
              go_wp2_with fail
              refine (hca2.out _).mono ?_
              rintro e w4 ⟨rfl, k4⟩
              have hH4 := Lib.hid (hH.out.quiet k4)
              have g0 := hH4.out.cell (o := 0) (.there (.here _ _)) rfl
              have g1 := hH4.out.cell (o := 1) (.there (.here _ _)) rfl
              have g2 := hH4.out.cell (o := 0) (.there (.there (.here _ _))) rfl
              have g3 := hH4.out.cell (o := 1) (.there (.there (.here _ _))) rfl
              clear k4 hH hca2 c0 c1 c2 c3
              go_wp2_with fail
              refine (hcb2.out _).mono ?_
              rintro e w5 ⟨rfl, k5⟩
              have hH5 := Lib.hid (hH4.out.quiet k5)
              clear k5 hH4 hcb2 g0 g1 g2 g3
              clear hfv hstep hall
              go_wp2_with fail
              go_roundw
              case rel => exact ⟨k + 1, hkk.out, by go_num, by rw [show R0 + (k + 1) = r + 1 by have := hr'.out; omega]; go_num, hst.out, hH5.out⟩
              case measure => (simp [intOf]; try omega)
            · have heqv : ((n : Int) == (r : Nat)) = false := by simp; omega
              have hfv : Hid (f r = false) := Lib.hid (by rw [hf.out, h1v, h2v, decide_eq_false heq]; simp)
              have hnot := Lib.hid hfv.out
              have hfr := Lib.hid (fun k (h : r + 64 ≤ k) => hfar.out k (by omega))
              clear hfv hstep hfar hr'
              have hca2 := hca
              have hcb2 := hcb
              clear hca hcb
              rw [h1v] at hca2
              rw [h2v] at hcb2
              go_wp2_with fail
              refine (hca2.out _).mono ?_
              rintro e w4 ⟨rfl, k4⟩
              have hH4 := Lib.hid (hH.out.quiet k4)
              have g0 := hH4.out.cell (o := 0) (.there (.here _ _)) rfl
              have g1 := hH4.out.cell (o := 1) (.there (.here _ _)) rfl
              have g2 := hH4.out.cell (o := 0) (.there (.there (.here _ _))) rfl
              have g3 := hH4.out.cell (o := 1) (.there (.there (.here _ _))) rfl
              clear k4 hH hca2 c0 c1 c2 c3
              go_wp2_with fail
              refine (hcb2.out _).mono ?_
              rintro e w5 ⟨rfl, k5⟩
              have hH5 := Lib.hid (hH4.out.quiet k5)
              clear k5 hH4 hcb2 g0 g1 g2 g3
              go_wp2_with fail
              go_loopw [15, 14, 13] (fun t q s V => ∃ (i m v : Nat), i ≤ 63 ∧ t = .int .u64 (i : Int) ∧ q = .int .u64 (v : Int) ∧ s = .int .u64 (m : Int) ∧ MaskR f r i m v ∧ SL V [.blk b8 [.int .u64 0, .int .u64 0] 50, .blk b5 [.int .u64 R0, .int .u64 (U y)] 50, .blk b4 [.int .u64 N, .int .u64 (U x)] 50, .old w no]) (fun t _ _ _ => 63 - (intOf t).toNat)
              case atStart => exact ⟨0, 0, 1, by omega, rfl, rfl, rfl, MaskR.start f r, hH5.out⟩
              case round =>
                clear hH5
                obtain ⟨i, m, v, hi, rfl, rfl, rfl, hm, H⟩ := hrel
                by_cases hi3 : i < 63
                · obtain ⟨b2, b3⟩ := hm.bound hi3
                  obtain ⟨g, hg⟩ : ∃ g, r + 1 + i = g := ⟨_, rfl⟩
                  have eg : (r : Int) + 1 + i = (g : Int) := by omega
                  have hg2 : g ≤ 4611686018427389100 := by omega
                  have hset := Lib.hid (fun h => hm.set h)
                  have hskip := Lib.hid (fun h => hm.skip h)
                  rw [hg] at hset hskip
                  have hca := Lib.hid (fun V => hHa.out g (by omega) V)
                  have hcb := Lib.hid (fun V => hHb.out g (by omega) V)
                  have hH := Lib.hid H
                  clear H hm hg
                  have c0 := hH.out.cell (o := 0) (.there (.here _ _)) rfl
                  have c1 := hH.out.cell (o := 1) (.there (.here _ _)) rfl
                  have c2 := hH.out.cell (o := 0) (.there (.there (.here _ _))) rfl
                  have c3 := hH.out.cell (o := 1) (.there (.there (.here _ _))) rfl
                  cases h1v : metM N x g with
                  | true =>
                    have hfv : Hid (f g = true) := Lib.hid (by rw [hf.out, h1v]; simp)
                    have hms := Lib.hid (hset.out hfv.out)
                    clear hfv hset hskip
                    have hca2 := hca
                    have hcb2 := hcb
                    clear hca hcb
                    rw [h1v] at hca2
                    go_wp2_with fail
                    refine (hca2.out _).mono ?_
                    rintro e w4 ⟨rfl, k4⟩
                    have hH4 := Lib.hid (hH.out.quiet k4)
                    have g0 := hH4.out.cell (o := 0) (.there (.here _ _)) rfl
                    have g1 := hH4.out.cell (o := 1) (.there (.here _ _)) rfl
                    have g2 := hH4.out.cell (o := 0) (.there (.there (.here _ _))) rfl
                    have g3 := hH4.out.cell (o := 1) (.there (.there (.here _ _))) rfl
                    clear k4 hH hca2 c0 c1 c2 c3
                    go_wp2_with fail
                    refine (hcb2.out _).mono ?_
                    rintro e w5 ⟨rfl, k5⟩
                    have hH5 := Lib.hid (hH4.out.quiet k5)
                    clear k5 hH4 hcb2 g0 g1 g2 g3
                    go_wp2_with fail
                    go_roundw
                    case rel => exact ⟨i + 1, m + v, 2 * v, by omega, by go_num, by go_num, by go_num, hms.out, hH5.out⟩
                    case measure => (simp [intOf]; try omega)
                  | false =>
                    cases h2v : metM R0 y g with
                    | true =>
                      have hfv : Hid (f g = true) := Lib.hid (by rw [hf.out, h1v, h2v]; simp)
                      have hms := Lib.hid (hset.out hfv.out)
                      clear hfv hset hskip
                      have hca2 := hca
                      have hcb2 := hcb
                      clear hca hcb
                      rw [h1v] at hca2
                      rw [h2v] at hcb2
                      go_wp2_with fail
                      refine (hca2.out _).mono ?_
                      rintro e w4 ⟨rfl, k4⟩
                      have hH4 := Lib.hid (hH.out.quiet k4)
                      have g0 := hH4.out.cell (o := 0) (.there (.here _ _)) rfl
                      have g1 := hH4.out.cell (o := 1) (.there (.here _ _)) rfl
                      have g2 := hH4.out.cell (o := 0) (.there (.there (.here _ _))) rfl
                      have g3 := hH4.out.cell (o := 1) (.there (.there (.here _ _))) rfl
                      clear k4 hH hca2 c0 c1 c2 c3
                      go_wp2_with fail
                      refine (hcb2.out _).mono ?_
                      rintro e w5 ⟨rfl, k5⟩
                      have hH5 := Lib.hid (hH4.out.quiet k5)
                      clear k5 hH4 hcb2 g0 g1 g2 g3
                      go_wp2_with fail
                      go_roundw
                      case rel => exact ⟨i + 1, m + v, 2 * v, by omega, by go_num, by go_num, by go_num, hms.out, hH5.out⟩
                      case measure => (simp [intOf]; try omega)
                    | false =>
                      by_cases heq : g = n
                      · have heqv : ((n : Int) == (g : Nat)) = true := by simp; omega
                        have hfv : Hid (f g = true) := Lib.hid (by rw [hf.out, h1v, h2v, decide_eq_true heq]; simp)
                        clear heq
                        have hms := Lib.hid (hset.out hfv.out)
                        clear hfv hset hskip
                        have hca2 := hca
                        have hcb2 := hcb
                        clear hca hcb
                        rw [h1v] at hca2
                        rw [h2v] at hcb2
                        go_wp2_with fail
                        refine (hca2.out _).mono ?_
                        rintro e w4 ⟨rfl, k4⟩
                        have hH4 := Lib.hid (hH.out.quiet k4)
                        have g0 := hH4.out.cell (o := 0) (.there (.here _ _)) rfl
                        have g1 := hH4.out.cell (o := 1) (.there (.here _ _)) rfl
                        have g2 := hH4.out.cell (o := 0) (.there (.there (.here _ _))) rfl
                        have g3 := hH4.out.cell (o := 1) (.there (.there (.here _ _))) rfl
                        clear k4 hH hca2 c0 c1 c2 c3
                        go_wp2_with fail
                        refine (hcb2.out _).mono ?_
                        rintro e w5 ⟨rfl, k5⟩
                        have hH5 := Lib.hid (hH4.out.quiet k5)
                        clear k5 hH4 hcb2 g0 g1 g2 g3
                        go_wp2_with fail
                        go_roundw
                        case rel => exact ⟨i + 1, m + v, 2 * v, by omega, by go_num, by go_num, by go_num, hms.out, hH5.out⟩
                        case measure => (simp [intOf]; try omega)
                      · have heqv : ((n : Int) == (g : Nat)) = false := by simp; omega
                        have hfv : Hid (f g = false) := Lib.hid (by rw [hf.out, h1v, h2v, decide_eq_false heq]; simp)
                        have hms := Lib.hid (hskip.out hfv.out)
                        clear hfv hset hskip
                        have hca2 := hca
                        have hcb2 := hcb
                        clear hca hcb
                        rw [h1v] at hca2
                        rw [h2v] at hcb2
                        go_wp2_with fail
                        refine (hca2.out _).mono ?_
                        rintro e w4 ⟨rfl, k4⟩
                        have hH4 := Lib.hid (hH.out.quiet k4)
                        have g0 := hH4.out.cell (o := 0) (.there (.here _ _)) rfl
                        have g1 := hH4.out.cell (o := 1) (.there (.here _ _)) rfl
                        have g2 := hH4.out.cell (o := 0) (.there (.there (.here _ _))) rfl
                        have g3 := hH4.out.cell (o := 1) (.there (.there (.here _ _))) rfl
                        clear k4 hH hca2 c0 c1 c2 c3
                        go_wp2_with fail
                        refine (hcb2.out _).mono ?_
                        rintro e w5 ⟨rfl, k5⟩
                        have hH5 := Lib.hid (hH4.out.quiet k5)
                        clear k5 hH4 hcb2 g0 g1 g2 g3
                        go_wp2_with fail
                        go_roundw
                        case rel => exact ⟨i + 1, m, 2 * v, by omega, by go_num, by go_num, rfl, hms.out, hH5.out⟩
                        case measure => (simp [intOf]; try omega)
                · obtain rfl : i = 63 := by omega
                  obtain ⟨z, hz, hz63, hzk⟩ := hm.fin hall.out hnot.out hfr.out
                  rw [hz]
                  have h6 := (H.setCell 0 (.int .u64 r)).setCell 1 (.int .u64 (U z))
                  have hH6 := Lib.hid h6
                  have fz := fun o => H.free (.here _ _) o
                  have z0 := H.cell (o := 0) (.here _ _) rfl
                  have z1 := H.cell (o := 1) (.here _ _) rfl
                  have hzk' := Lib.hid hzk
                  have hz' := Lib.hid hz63
                  clear hm hz h6 hzk hz63 hi3
                  go_wp2_with fail
                  generalize (wr.setCell ⟨b8, 0, none⟩ (.int .u64 r)).setCell ⟨b8, 1, none⟩ (.int .u64 (U z)) = w6 at *
                  have k0 := hH6.out.cell (o := 0) (.here _ _) rfl
                  have k1 := hH6.out.cell (o := 1) (.here _ _) rfl
                  refine bodyPost_ret (v := .agg #[.int .u64 r, .int .u64 (U z)]) ?_ rfl ?_
                  · simp [results, Tryd.results42, go_sem, k0, k1]
                  · exact ⟨r, z, rfl, hz'.out, by rw [hfe'.out]; exact hzk'.out, hH6.out.kp (.there (.there (.there (.here _ _))))⟩
  · obtain rfl : R0 = N := by omega
    have d1 : ¬ R0 < M := hlt
    clear hR0 hlt
    go_wp2_with fail
    generalize ((w.alloc (.cells #[.int .u64 R0, .int .u64 (U x)] 50)).alloc (.cells #[.int .u64 M, .int .u64 (U y)] 50)).alloc (.cells #[.int .u64 0, .int .u64 0] 50) = w3 at *
    generalize w.heap.size + 1 + 1 = b8 at *
    generalize w.heap.size + 1 = b5 at *
    generalize w.heap.size = b4 at *
    go_loopw [10, 9] (fun t s V => ∃ k : Nat, k ≤ 64 ∧ t = .int .i64 (k : Int) ∧ s = .int .u64 ((R0 + k : Nat) : Int) ∧ UpR f R0 k ∧ SL V [.blk b8 [.int .u64 0, .int .u64 0] 50, .blk b5 [.int .u64 M, .int .u64 (U y)] 50, .blk b4 [.int .u64 R0, .int .u64 (U x)] 50, .old w no]) (fun t _ _ => 200 - (intOf t).toNat)
    case atStart => exact ⟨0, by omega, rfl, rfl, hup.out, hH.out⟩
    case round =>
      clear hH hup
      obtain ⟨k, hk, rfl, rfl, hu, H⟩ := hrel
      have hk2 : k ≤ 199 := by omega
      obtain ⟨r, hr⟩ : ∃ r, R0 + k = r := ⟨_, rfl⟩
      have hr2 : r ≤ 4611686018427389000 := by omega
      have hr3 : R0 ≤ r := by omega
      rw [hr]
      have hstep := Lib.hid (fun h => hu.step h)
      rw [hr] at hstep
      have hall := Lib.hid hu.all
      rw [hr] at hall
      have hr' := Lib.hid hr
      have hca := Lib.hid (fun V => hHa.out r (by omega) V)
      have hcb := Lib.hid (fun V => hHb.out r (by omega) V)
      have hH := Lib.hid H
      clear H hu hr
      have c0 := hH.out.cell (o := 0) (.there (.here _ _)) rfl
      have c1 := hH.out.cell (o := 1) (.there (.here _ _)) rfl
      have c2 := hH.out.cell (o := 0) (.there (.there (.here _ _))) rfl
      have c3 := hH.out.cell (o := 1) (.there (.there (.here _ _))) rfl
      cases h1v : metM R0 x r with
      | true =>
        have hfv : Hid (f r = true) := Lib.hid (by rw [hf.out, h1v]; simp)
        have hst := Lib.hid (hstep.out hfv.out)
        have hkk := Lib.hid (hst.out.small hfar.out)
        have hca2 := hca
        have hcb2 := hcb
        clear hca hcb
        rw [h1v] at hca2
        go_wp2_with fail
        refine (hca2.out _).mono ?_
        rintro e w4 ⟨rfl, k4⟩
        have hH4 := Lib.hid (hH.out.quiet k4)
        have g0 := hH4.out.cell (o := 0) (.there (.here _ _)) rfl
        have g1 := hH4.out.cell (o := 1) (.there (.here _ _)) rfl
        have g2 := hH4.out.cell (o := 0) (.there (.there (.here _ _))) rfl
        have g3 := hH4.out.cell (o := 1) (.there (.there (.here _ _))) rfl
        clear k4 hH hca2 c0 c1 c2 c3
        go_wp2_with fail
        refine (hcb2.out _).mono ?_
        rintro e w5 ⟨rfl, k5⟩
        have hH5 := Lib.hid (hH4.out.quiet k5)
        clear k5 hH4 hcb2 g0 g1 g2 g3
        clear hfv hstep hall
        go_wp2_with fail
        go_roundw
        case rel => exact ⟨k + 1, hkk.out, by go_num, by rw [show R0 + (k + 1) = r + 1 by have := hr'.out; omega]; go_num, hst.out, hH5.out⟩
        case measure => (simp [intOf]; try omega)
      | false =>
        cases h2v : metM M y r with
        | true =>
          have hfv : Hid (f r = true) := Lib.hid (by rw [hf.out, h1v, h2v]; simp)
          have hst := Lib.hid (hstep.out hfv.out)
          have hkk := Lib.hid (hst.out.small hfar.out)
          have hca2 := hca
          have hcb2 := hcb
          clear hca hcb
          rw [h1v] at hca2
          rw [h2v] at hcb2
          go_wp2_with fail
          refine (hca2.out _).mono ?_
          rintro e w4 ⟨rfl, k4⟩
          have hH4 := Lib.hid (hH.out.quiet k4)
          have g0 := hH4.out.cell (o := 0) (.there (.here _ _)) rfl
          have g1 := hH4.out.cell (o := 1) (.there (.here _ _)) rfl
          have g2 := hH4.out.cell (o := 0) (.there (.there (.here _ _))) rfl
          have g3 := hH4.out.cell (o := 1) (.there (.there (.here _ _))) rfl
          clear k4 hH hca2 c0 c1 c2 c3
          go_wp2_with fail
          refine (hcb2.out _).mono ?_
          rintro e w5 ⟨rfl, k5⟩
          have hH5 := Lib.hid (hH4.out.quiet k5)
          clear k5 hH4 hcb2 g0 g1 g2 g3
          clear hfv hstep hall
          go_wp2_with fail
          go_roundw
          case rel => exact ⟨k + 1, hkk.out, by go_num, by rw [show R0 + (k + 1) = r + 1 by have := hr'.out; omega]; go_num, hst.out, hH5.out⟩
          case measure => (simp [intOf]; try omega)
        | false =>
          cases mt with
          | false =>
            have hfv : Hid (f r = false) := Lib.hid (by rw [hf.out, h1v, h2v]; simp)
            have hnot := Lib.hid hfv.out
            have hfr := Lib.hid (fun k (h : r + 64 ≤ k) => hfar.out k (by omega))
            clear hfv hstep hfar hr'
            have hca2 := hca
            have hcb2 := hcb
            clear hca hcb
            rw [h1v] at hca2
            rw [h2v] at hcb2
            go_wp2_with fail
            refine (hca2.out _).mono ?_
            rintro e w4 ⟨rfl, k4⟩
            have hH4 := Lib.hid (hH.out.quiet k4)
            have g0 := hH4.out.cell (o := 0) (.there (.here _ _)) rfl
            have g1 := hH4.out.cell (o := 1) (.there (.here _ _)) rfl
            have g2 := hH4.out.cell (o := 0) (.there (.there (.here _ _))) rfl
            have g3 := hH4.out.cell (o := 1) (.there (.there (.here _ _))) rfl
            clear k4 hH hca2 c0 c1 c2 c3
            go_wp2_with fail
            refine (hcb2.out _).mono ?_
            rintro e w5 ⟨rfl, k5⟩
            have hH5 := Lib.hid (hH4.out.quiet k5)
            clear k5 hH4 hcb2 g0 g1 g2 g3
            go_wp2_with fail
            go_loopw [15, 14, 13] (fun t q s V => ∃ (i m v : Nat), i ≤ 63 ∧ t = .int .u64 (i : Int) ∧ q = .int .u64 (v : Int) ∧ s = .int .u64 (m : Int) ∧ MaskR f r i m v ∧ SL V [.blk b8 [.int .u64 0, .int .u64 0] 50, .blk b5 [.int .u64 M, .int .u64 (U y)] 50, .blk b4 [.int .u64 R0, .int .u64 (U x)] 50, .old w no]) (fun t _ _ _ => 63 - (intOf t).toNat)
            case atStart => exact ⟨0, 0, 1, by omega, rfl, rfl, rfl, MaskR.start f r, hH5.out⟩
            case round =>
              clear hH5
              obtain ⟨i, m, v, hi, rfl, rfl, rfl, hm, H⟩ := hrel
              by_cases hi3 : i < 63
              · obtain ⟨b2, b3⟩ := hm.bound hi3
                obtain ⟨g, hg⟩ : ∃ g, r + 1 + i = g := ⟨_, rfl⟩
                have eg : (r : Int) + 1 + i = (g : Int) := by omega
                have hg2 : g ≤ 4611686018427389100 := by omega
                have hset := Lib.hid (fun h => hm.set h)
                have hskip := Lib.hid (fun h => hm.skip h)
                rw [hg] at hset hskip
                have hca := Lib.hid (fun V => hHa.out g (by omega) V)
                have hcb := Lib.hid (fun V => hHb.out g (by omega) V)
                have hH := Lib.hid H
                clear H hm hg
                have c0 := hH.out.cell (o := 0) (.there (.here _ _)) rfl
                have c1 := hH.out.cell (o := 1) (.there (.here _ _)) rfl
                have c2 := hH.out.cell (o := 0) (.there (.there (.here _ _))) rfl
                have c3 := hH.out.cell (o := 1) (.there (.there (.here _ _))) rfl
                cases h1v : metM R0 x g with
                | true =>
                  have hfv : Hid (f g = true) := Lib.hid (by rw [hf.out, h1v]; simp)
                  have hms := Lib.hid (hset.out hfv.out)
                  clear hfv hset hskip
                  have hca2 := hca
                  have hcb2 := hcb
                  clear hca hcb
                  rw [h1v] at hca2
                  go_wp2_with fail
                  refine (hca2.out _).mono ?_
                  rintro e w4 ⟨rfl, k4⟩
                  have hH4 := Lib.hid (hH.out.quiet k4)
                  have g0 := hH4.out.cell (o := 0) (.there (.here _ _)) rfl
                  have g1 := hH4.out.cell (o := 1) (.there (.here _ _)) rfl
                  have g2 := hH4.out.cell (o := 0) (.there (.there (.here _ _))) rfl
                  have g3 := hH4.out.cell (o := 1) (.there (.there (.here _ _))) rfl
                  clear k4 hH hca2 c0 c1 c2 c3
                  go_wp2_with fail
                  refine (hcb2.out _).mono ?_
                  rintro e w5 ⟨rfl, k5⟩
                  have hH5 := Lib.hid (hH4.out.quiet k5)
                  clear k5 hH4 hcb2 g0 g1 g2 g3
                  go_wp2_with fail
                  go_roundw
                  case rel => exact ⟨i + 1, m + v, 2 * v, by omega, by go_num, by go_num, by go_num, hms.out, hH5.out⟩
                  case measure => (simp [intOf]; try omega)
                | false =>
                  cases h2v : metM M y g with
                  | true =>
                    have hfv : Hid (f g = true) := Lib.hid (by rw [hf.out, h1v, h2v]; simp)
                    have hms := Lib.hid (hset.out hfv.out)
                    clear hfv hset hskip
                    have hca2 := hca
                    have hcb2 := hcb
                    clear hca hcb
                    rw [h1v] at hca2
                    rw [h2v] at hcb2
                    go_wp2_with fail
                    refine (hca2.out _).mono ?_
                    rintro e w4 ⟨rfl, k4⟩
                    have hH4 := Lib.hid (hH.out.quiet k4)
                    have g0 := hH4.out.cell (o := 0) (.there (.here _ _)) rfl
                    have g1 := hH4.out.cell (o := 1) (.there (.here _ _)) rfl
                    have g2 := hH4.out.cell (o := 0) (.there (.there (.here _ _))) rfl
                    have g3 := hH4.out.cell (o := 1) (.there (.there (.here _ _))) rfl
                    clear k4 hH hca2 c0 c1 c2 c3
                    go_wp2_with fail
                    refine (hcb2.out _).mono ?_
                    rintro e w5 ⟨rfl, k5⟩
                    have hH5 := Lib.hid (hH4.out.quiet k5)
                    clear k5 hH4 hcb2 g0 g1 g2 g3
                    go_wp2_with fail
                    go_roundw
                    case rel => exact ⟨i + 1, m + v, 2 * v, by omega, by go_num, by go_num, by go_num, hms.out, hH5.out⟩
                    case measure => (simp [intOf]; try omega)
                  | false =>
                    have hfv : Hid (f g = false) := Lib.hid (by rw [hf.out, h1v, h2v]; simp)
                    have hms := Lib.hid (hskip.out hfv.out)
                    clear hfv hset hskip
                    have hca2 := hca
                    have hcb2 := hcb
                    clear hca hcb
                    rw [h1v] at hca2
                    rw [h2v] at hcb2
                    go_wp2_with fail
                    refine (hca2.out _).mono ?_
                    rintro e w4 ⟨rfl, k4⟩
                    have hH4 := Lib.hid (hH.out.quiet k4)
                    have g0 := hH4.out.cell (o := 0) (.there (.here _ _)) rfl
                    have g1 := hH4.out.cell (o := 1) (.there (.here _ _)) rfl
                    have g2 := hH4.out.cell (o := 0) (.there (.there (.here _ _))) rfl
                    have g3 := hH4.out.cell (o := 1) (.there (.there (.here _ _))) rfl
                    clear k4 hH hca2 c0 c1 c2 c3
                    go_wp2_with fail
                    refine (hcb2.out _).mono ?_
                    rintro e w5 ⟨rfl, k5⟩
                    have hH5 := Lib.hid (hH4.out.quiet k5)
                    clear k5 hH4 hcb2 g0 g1 g2 g3
                    go_wp2_with fail
                    go_roundw
                    case rel => exact ⟨i + 1, m, 2 * v, by omega, by go_num, by go_num, rfl, hms.out, hH5.out⟩
                    case measure => (simp [intOf]; try omega)
              · obtain rfl : i = 63 := by omega
                obtain ⟨z, hz, hz63, hzk⟩ := hm.fin hall.out hnot.out hfr.out
                rw [hz]
                have h6 := (H.setCell 0 (.int .u64 r)).setCell 1 (.int .u64 (U z))
                have hH6 := Lib.hid h6
                have fz := fun o => H.free (.here _ _) o
                have z0 := H.cell (o := 0) (.here _ _) rfl
                have z1 := H.cell (o := 1) (.here _ _) rfl
                have hzk' := Lib.hid hzk
                have hz' := Lib.hid hz63
                clear hm hz h6 hzk hz63 hi3
                go_wp2_with fail
                generalize (wr.setCell ⟨b8, 0, none⟩ (.int .u64 r)).setCell ⟨b8, 1, none⟩ (.int .u64 (U z)) = w6 at *
                have k0 := hH6.out.cell (o := 0) (.here _ _) rfl
                have k1 := hH6.out.cell (o := 1) (.here _ _) rfl
                refine bodyPost_ret (v := .agg #[.int .u64 r, .int .u64 (U z)]) ?_ rfl ?_
                · simp [results, Tryd.results42, go_sem, k0, k1]
                · exact ⟨r, z, rfl, hz'.out, by rw [hfe'.out]; exact hzk'.out, hH6.out.kp (.there (.there (.there (.here _ _))))⟩
          | true =>
            by_cases heq : r = n
            · have heqv : ((n : Int) == (r : Nat)) = true := by simp; omega
              have hfv : Hid (f r = true) := Lib.hid (by rw [hf.out, h1v, h2v, decide_eq_true heq]; simp)
              clear heq
              have hst := Lib.hid (hstep.out hfv.out)
              have hkk := Lib.hid (hst.out.small hfar.out)
              have hca2 := hca
              have hcb2 := hcb
              clear hca hcb
              rw [h1v] at hca2
              rw [h2v] at hcb2
              go_wp2_with fail
              refine (hca2.out _).mono ?_
              rintro e w4 ⟨rfl, k4⟩
              have hH4 := Lib.hid (hH.out.quiet k4)
              have g0 := hH4.out.cell (o := 0) (.there (.here _ _)) rfl
              have g1 := hH4.out.cell (o := 1) (.there (.here _ _)) rfl
              have g2 := hH4.out.cell (o := 0) (.there (.there (.here _ _))) rfl
              have g3 := hH4.out.cell (o := 1) (.there (.there (.here _ _))) rfl
              clear k4 hH hca2 c0 c1 c2 c3
              go_wp2_with fail
              refine (hcb2.out _).mono ?_
              rintro e w5 ⟨rfl, k5⟩
              have hH5 := Lib.hid (hH4.out.quiet k5)
              clear k5 hH4 hcb2 g0 g1 g2 g3
              clear hfv hstep hall
              go_wp2_with fail
              go_roundw
              case rel => exact ⟨k + 1, hkk.out, by go_num, by rw [show R0 + (k + 1) = r + 1 by have := hr'.out; omega]; go_num, hst.out, hH5.out⟩
              case measure => (simp [intOf]; try omega)
            · have heqv : ((n : Int) == (r : Nat)) = false := by simp; omega
              have hfv : Hid (f r = false) := Lib.hid (by rw [hf.out, h1v, h2v, decide_eq_false heq]; simp)
              have hnot := Lib.hid hfv.out
              have hfr := Lib.hid (fun k (h : r + 64 ≤ k) => hfar.out k (by omega))
              clear hfv hstep hfar hr'
              have hca2 := hca
              have hcb2 := hcb
              clear hca hcb
              rw [h1v] at hca2
              rw [h2v] at hcb2
              go_wp2_with fail
              refine (hca2.out _).mono ?_
              rintro e w4 ⟨rfl, k4⟩
              have hH4 := Lib.hid (hH.out.quiet k4)
              have g0 := hH4.out.cell (o := 0) (.there (.here _ _)) rfl
              have g1 := hH4.out.cell (o := 1) (.there (.here _ _)) rfl
              have g2 := hH4.out.cell (o := 0) (.there (.there (.here _ _))) rfl
              have g3 := hH4.out.cell (o := 1) (.there (.there (.here _ _))) rfl
              clear k4 hH hca2 c0 c1 c2 c3
              go_wp2_with fail
              refine (hcb2.out _).mono ?_
              rintro e w5 ⟨rfl, k5⟩
              have hH5 := Lib.hid (hH4.out.quiet k5)
              clear k5 hH4 hcb2 g0 g1 g2 g3
              go_wp2_with fail
              go_loopw [15, 14, 13] (fun t q s V => ∃ (i m v : Nat), i ≤ 63 ∧ t = .int .u64 (i : Int) ∧ q = .int .u64 (v : Int) ∧ s = .int .u64 (m : Int) ∧ MaskR f r i m v ∧ SL V [.blk b8 [.int .u64 0, .int .u64 0] 50, .blk b5 [.int .u64 M, .int .u64 (U y)] 50, .blk b4 [.int .u64 R0, .int .u64 (U x)] 50, .old w no]) (fun t _ _ _ => 63 - (intOf t).toNat)
              case atStart => exact ⟨0, 0, 1, by omega, rfl, rfl, rfl, MaskR.start f r, hH5.out⟩
              case round =>
                clear hH5
                obtain ⟨i, m, v, hi, rfl, rfl, rfl, hm, H⟩ := hrel
                by_cases hi3 : i < 63
                · obtain ⟨b2, b3⟩ := hm.bound hi3
                  obtain ⟨g, hg⟩ : ∃ g, r + 1 + i = g := ⟨_, rfl⟩
                  have eg : (r : Int) + 1 + i = (g : Int) := by omega
                  have hg2 : g ≤ 4611686018427389100 := by omega
                  have hset := Lib.hid (fun h => hm.set h)
                  have hskip := Lib.hid (fun h => hm.skip h)
                  rw [hg] at hset hskip
                  have hca := Lib.hid (fun V => hHa.out g (by omega) V)
                  have hcb := Lib.hid (fun V => hHb.out g (by omega) V)
                  have hH := Lib.hid H
                  clear H hm hg
                  have c0 := hH.out.cell (o := 0) (.there (.here _ _)) rfl
                  have c1 := hH.out.cell (o := 1) (.there (.here _ _)) rfl
                  have c2 := hH.out.cell (o := 0) (.there (.there (.here _ _))) rfl
                  have c3 := hH.out.cell (o := 1) (.there (.there (.here _ _))) rfl
                  cases h1v : metM R0 x g with
                  | true =>
                    have hfv : Hid (f g = true) := Lib.hid (by rw [hf.out, h1v]; simp)
                    have hms := Lib.hid (hset.out hfv.out)
                    clear hfv hset hskip
                    have hca2 := hca
                    have hcb2 := hcb
                    clear hca hcb
                    rw [h1v] at hca2
                    go_wp2_with fail
                    refine (hca2.out _).mono ?_
                    rintro e w4 ⟨rfl, k4⟩
                    have hH4 := Lib.hid (hH.out.quiet k4)
                    have g0 := hH4.out.cell (o := 0) (.there (.here _ _)) rfl
                    have g1 := hH4.out.cell (o := 1) (.there (.here _ _)) rfl
                    have g2 := hH4.out.cell (o := 0) (.there (.there (.here _ _))) rfl
                    have g3 := hH4.out.cell (o := 1) (.there (.there (.here _ _))) rfl
                    clear k4 hH hca2 c0 c1 c2 c3
                    go_wp2_with fail
                    refine (hcb2.out _).mono ?_
                    rintro e w5 ⟨rfl, k5⟩
                    have hH5 := Lib.hid (hH4.out.quiet k5)
                    clear k5 hH4 hcb2 g0 g1 g2 g3
                    go_wp2_with fail
                    go_roundw
                    case rel => exact ⟨i + 1, m + v, 2 * v, by omega, by go_num, by go_num, by go_num, hms.out, hH5.out⟩
                    case measure => (simp [intOf]; try omega)
                  | false =>
                    cases h2v : metM M y g with
                    | true =>
                      have hfv : Hid (f g = true) := Lib.hid (by rw [hf.out, h1v, h2v]; simp)
                      have hms := Lib.hid (hset.out hfv.out)
                      clear hfv hset hskip
                      have hca2 := hca
                      have hcb2 := hcb
                      clear hca hcb
                      rw [h1v] at hca2
                      rw [h2v] at hcb2
                      go_wp2_with fail
                      refine (hca2.out _).mono ?_
                      rintro e w4 ⟨rfl, k4⟩
                      have hH4 := Lib.hid (hH.out.quiet k4)
                      have g0 := hH4.out.cell (o := 0) (.there (.here _ _)) rfl
                      have g1 := hH4.out.cell (o := 1) (.there (.here _ _)) rfl
                      have g2 := hH4.out.cell (o := 0) (.there (.there (.here _ _))) rfl
                      have g3 := hH4.out.cell (o := 1) (.there (.there (.here _ _))) rfl
                      clear k4 hH hca2 c0 c1 c2 c3
                      go_wp2_with fail
                      refine (hcb2.out _).mono ?_
                      rintro e w5 ⟨rfl, k5⟩
                      have hH5 := Lib.hid (hH4.out.quiet k5)
                      clear k5 hH4 hcb2 g0 g1 g2 g3
                      go_wp2_with fail
                      go_roundw
                      case rel => exact ⟨i + 1, m + v, 2 * v, by omega, by go_num, by go_num, by go_num, hms.out, hH5.out⟩
                      case measure => (simp [intOf]; try omega)
                    | false =>
                      by_cases heq : g = n
                      · have heqv : ((n : Int) == (g : Nat)) = true := by simp; omega
                        have hfv : Hid (f g = true) := Lib.hid (by rw [hf.out, h1v, h2v, decide_eq_true heq]; simp)
                        clear heq
                        have hms := Lib.hid (hset.out hfv.out)
                        clear hfv hset hskip
                        have hca2 := hca
                        have hcb2 := hcb
                        clear hca hcb
                        rw [h1v] at hca2
                        rw [h2v] at hcb2
                        go_wp2_with fail
                        refine (hca2.out _).mono ?_
                        rintro e w4 ⟨rfl, k4⟩
                        have hH4 := Lib.hid (hH.out.quiet k4)
                        have g0 := hH4.out.cell (o := 0) (.there (.here _ _)) rfl
                        have g1 := hH4.out.cell (o := 1) (.there (.here _ _)) rfl
                        have g2 := hH4.out.cell (o := 0) (.there (.there (.here _ _))) rfl
                        have g3 := hH4.out.cell (o := 1) (.there (.there (.here _ _))) rfl
                        clear k4 hH hca2 c0 c1 c2 c3
                        go_wp2_with fail
                        refine (hcb2.out _).mono ?_
                        rintro e w5 ⟨rfl, k5⟩
                        have hH5 := Lib.hid (hH4.out.quiet k5)
                        clear k5 hH4 hcb2 g0 g1 g2 g3
                        go_wp2_with fail
                        go_roundw
                        case rel => exact ⟨i + 1, m + v, 2 * v, by omega, by go_num, by go_num, by go_num, hms.out, hH5.out⟩
                        case measure => (simp [intOf]; try omega)
                      · have heqv : ((n : Int) == (g : Nat)) = false := by simp; omega
                        have hfv : Hid (f g = false) := Lib.hid (by rw [hf.out, h1v, h2v, decide_eq_false heq]; simp)
                        have hms := Lib.hid (hskip.out hfv.out)
                        clear hfv hset hskip
                        have hca2 := hca
                        have hcb2 := hcb
                        clear hca hcb
                        rw [h1v] at hca2
                        rw [h2v] at hcb2
                        go_wp2_with fail
                        refine (hca2.out _).mono ?_
                        rintro e w4 ⟨rfl, k4⟩
                        have hH4 := Lib.hid (hH.out.quiet k4)
                        have g0 := hH4.out.cell (o := 0) (.there (.here _ _)) rfl
                        have g1 := hH4.out.cell (o := 1) (.there (.here _ _)) rfl
                        have g2 := hH4.out.cell (o := 0) (.there (.there (.here _ _))) rfl
                        have g3 := hH4.out.cell (o := 1) (.there (.there (.here _ _))) rfl
                        clear k4 hH hca2 c0 c1 c2 c3
                        go_wp2_with fail
                        refine (hcb2.out _).mono ?_
                        rintro e w5 ⟨rfl, k5⟩
                        have hH5 := Lib.hid (hH4.out.quiet k5)
                        clear k5 hH4 hcb2 g0 g1 g2 g3
                        go_wp2_with fail
                        go_roundw
                        case rel => exact ⟨i + 1, m, 2 * v, by omega, by go_num, by go_num, rfl, hms.out, hH5.out⟩
                        case measure => (simp [intOf]; try omega)
                · obtain rfl : i = 63 := by omega
                  obtain ⟨z, hz, hz63, hzk⟩ := hm.fin hall.out hnot.out hfr.out
                  rw [hz]
                  have h6 := (H.setCell 0 (.int .u64 r)).setCell 1 (.int .u64 (U z))
                  have hH6 := Lib.hid h6
                  have fz := fun o => H.free (.here _ _) o
                  have z0 := H.cell (o := 0) (.here _ _) rfl
                  have z1 := H.cell (o := 1) (.here _ _) rfl
                  have hzk' := Lib.hid hzk
                  have hz' := Lib.hid hz63
                  clear hm hz h6 hzk hz63 hi3
                  go_wp2_with fail
                  generalize (wr.setCell ⟨b8, 0, none⟩ (.int .u64 r)).setCell ⟨b8, 1, none⟩ (.int .u64 (U z)) = w6 at *
                  have k0 := hH6.out.cell (o := 0) (.here _ _) rfl
                  have k1 := hH6.out.cell (o := 1) (.here _ _) rfl
                  refine bodyPost_ret (v := .agg #[.int .u64 r, .int .u64 (U z)]) ?_ rfl ?_
                  · simp [results, Tryd.results42, go_sem, k0, k1]
                  · exact ⟨r, z, rfl, hz'.out, by rw [hfe'.out]; exact hzk'.out, hH6.out.kp (.there (.there (.there (.here _ _))))⟩
end Go.Proofs.YtkoajbmomipjkaaDoor
