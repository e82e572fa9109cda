/- The contracts at numbers that are written out. -/
import Derived.Test.YtkoajbmomipjkaaDoorLastL
namespace Go.Proofs.YtkoajbmomipjkaaDoor
open Go.RowKit
set_option linter.unusedVariables false

section
variable {p N n N' : Nat} {Nz nz m Nz' m' : Int} {x x' : BitVec 64} {b : Bool} {L : List Pc} {w w0 : World}

theorem meetL (H : SL w (winB p true Nz m :: L)) (ho : .old w0 no ∈ L) (ht : Tab w0) (N n : Nat) (x : BitVec 64) (N' : Nat) (x' : BitVec 64) (b : Bool) (Nz' m' : Int) (h1 : Nz = N) (h2 : nz = n) (h3 : m = U x)
    (hx : ~~~x ≠ 0#64) (hN : (N : Int) ≤ 4611686018427389000) (hq : roomM N n = true) (hw : withM N x n = (N', x')) (hb : (!metM N x n) = b) (h4 : m' = U x') (h5 : Nz' = N') :
    Calls Tryd.prog 12 #[.pointer (some ⟨p, 0, none⟩), .int .u64 nz] w fun e w' => e = .returned (.tuple #[.bool b, .int .i64 0]) ∧ SL w' (winB p true Nz' m' :: L) := by
  subst h1 h2 h3 h4 h5
  have htw : Tab w := ht.no (H.all (.old w0 no) (by simp [ho]))
  have := meet_yes H htw hx hN hq
  rw [hw, hb] at this
  exact this

theorem hasL (H : SL w (winB p true Nz m :: L)) (ho : .old w0 no ∈ L) (ht : Tab w0) (N n : Nat) (x : BitVec 64) (b : Bool) (h1 : Nz = N) (h2 : nz = n) (h3 : m = U x) (hN : (N : Int) ≤ 4611686018427389000) (hb : metM N x n = b) :
    Calls Tryd.prog 10 #[.pointer (some ⟨p, 0, none⟩), .int .u64 nz] w fun e w' => e = .returned (.bool b) ∧ SL w' (winB p true Nz m :: L) := by
  subst h1 h2 h3 hb
  exact has_L H ho ht hN n

theorem toldL {N2z m2z : Int} (H : SL w (winB p true Nz m :: L)) (ho : .old w0 no ∈ L) (ht : Tab w0) (N : Nat) (x : BitVec 64) (N2 : Nat) (x2 : BitVec 64) (R : Nat) (z : BitVec 64) (c : Int) (Nz' m' : Int) (h1 : Nz = N) (h2 : m = U x) (h3 : N2z = N2) (h4 : m2z = U x2)
    (hN : N ≤ 60) (hM : N2 ≤ 60) (hR : R ≤ 60) (hz : z.getLsbD 63 = false) (q1 : mayV N (U x) = true) (q2 : mayV N2 (U x2) = true) (h : ∀ k : Fin 130, metM R z k.val = (metM N x k.val || metM N2 x2 k.val))
    (hc : wrap64 (manyV R z - manyV N x) = c) (h5 : m' = U z) (h6 : Nz' = R) :
    Calls Tryd.prog 19 #[.pointer (some ⟨p, 0, none⟩), .int .u64 N2z, .int .u64 m2z] w fun e w' => e = .returned (.tuple #[.int .i64 c, .int .i64 0]) ∧ SL w' (winB p true Nz' m' :: L) := by
  subst h1 h2 h3 h4 h5 h6
  have g1 := (may_good _ _).1 q1
  have g2 := (may_good _ _).1 q2
  have := told_L H ho ht g1 g2 q2
  rw [unionK g1 g2 hN hM hR hz h, hc] at this
  exact this

theorem ofNo (H : SL w L) (h0 : 0 ≤ m) (h1 : m ≤ 18446744073709551615) (hq : mayV Nz m = false) : Calls Tryd.prog 9 #[.int .u64 Nz, .int .u64 m] w fun e w' => e = .returned (.tuple #[.pointer none, .int .i64 190]) ∧ SL w' L :=
  (of_c Nz m h0 h1 H).mono fun e w' h => by
    rcases h with ⟨-, h2, h3⟩ | ⟨h, -⟩
    · exact ⟨h2, h3⟩
    · rw [hq] at h; cases h
theorem ofYes (H : SL w L) (h0 : 0 ≤ m) (h1 : m ≤ 18446744073709551615) (hq : mayV Nz m = true) : Calls Tryd.prog 9 #[.int .u64 Nz, .int .u64 m] w fun e w' => ∃ p, e = .returned (.tuple #[.pointer (some ⟨p, 0, none⟩), .int .i64 0]) ∧ SL w' (winB p true Nz m :: L) :=
  (of_c Nz m h0 h1 H).mono fun e w' h => by
    rcases h with ⟨h, -⟩ | ⟨-, h⟩
    · rw [hq] at h; cases h
    · exact h

theorem keepL {f : Nat} {args : Array Value} {v : Value} (H : SL w L) (h : Calls Tryd.prog f args w fun e w' => e = .returned v ∧ w = w') : Calls Tryd.prog f args w fun e w' => e = .returned v ∧ SL w' L :=
  h.mono fun e w' ⟨h1, h2⟩ => ⟨h1, by rw [← h2]; exact H⟩

theorem holes05 : holesM 0 5#64 = [0, 2] := by
  rw [(holes_spec 0 5#64).1, top_len (by decide)]
  decide +kernel
theorem holesL (H : SL w (winB p true Nz m :: L)) (ho : .old w0 no ∈ L) (ht : Tab w0) (N : Nat) (x : BitVec 64) (l : List Nat) (h1 : Nz = N) (h3 : m = U x) (hN : (N : Int) ≤ 4611686018427389000) (hl : holesM N x = l) :
    Calls Tryd.prog 15 #[.pointer (some ⟨p, 0, none⟩)] w fun e w' => ∃ a c, e = .returned (.slice a l.length c) ∧
      SL w' (.own 22 1 (.slice a l.length c) l.length (uv l) :: winB p true Nz m :: L) := by
  subst h1 h3 hl
  exact holes_L H ho ht hN
theorem lastLK (H : SL w (winB p true Nz m :: L)) (h0 : 0 ≤ m) (h1 : m ≤ 18446744073709551615) (v : Int) (q : Bool) (h : lastA Nz m = (v, q)) :
    Calls Tryd.prog 16 #[.pointer (some ⟨p, 0, none⟩)] w fun e w' => e = .returned (.tuple #[.int .u64 v, .bool q]) ∧ SL w' (winB p true Nz m :: L) := by
  have := lastW_c H h0 h1
  rw [h] at this
  exact this
theorem roomL (H : SL w (winB p true Nz m :: L)) (n : Int) (h0 : 0 ≤ Nz) (h1 : Nz ≤ 4611686018427389000) (q : Bool) (hq : roomM Nz n = q) :
    Calls Tryd.prog 11 #[.pointer (some ⟨p, 0, none⟩), .int .u64 n] w fun e w' => e = .returned (.bool q) ∧ w = w' := by
  subst hq; exact room_c H n h0 h1
theorem atL (H : SL w (winB p true Nz m :: L)) (N' m' : Int) (h1 : Nz = N') (h2 : m = m') : Calls Tryd.prog 13 #[.pointer (some ⟨p, 0, none⟩), .int .u64 N', .int .u64 m'] w fun e w' => e = .returned (.bool true) ∧ w = w' := by
  subst h1 h2
  have := at_c H Nz m
  rw [beq_self_eq_true, beq_self_eq_true] at this
  exact this
end
end Go.Proofs.YtkoajbmomipjkaaDoor
