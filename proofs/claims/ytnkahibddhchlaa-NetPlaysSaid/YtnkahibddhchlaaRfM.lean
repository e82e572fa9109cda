/- Calls of the net and of the reference, one behind the other. -/
import Derived.Test.YtnkahibddhchlaaRfL
namespace Go.Proofs.Ytnkahibddhchlaa
open Go.RowKit
set_option linter.unusedVariables false

section
variable {p y : Nat} {s s2 : NSt} {L : List Pc} {w : World}
/-- A call of the net that turns nothing of the state's. -/
theorem Bth.quiet1 {P : Ending → Prop} {S : NSt} {f : FuncId} {args : Array Value} (H : Bth p s y s2 L w) (h : ∀ L', NAt p s L' w → Calls Try.prog f args w fun e w' => P e ∧ NAt p S L' w') :
    Calls Try.prog f args w fun e w' => P e ∧ Bth p S y s2 L w' :=
  (H.lift1 (α := Unit) (P := fun _ e => P e) (S := fun _ => S) (X := fun _ => []) fun L' h' => (h L' h').mono fun e w' ⟨a, b⟩ => ⟨(), a, b⟩).mono fun e w' ⟨_, a, b⟩ => ⟨a, b⟩
theorem Bth.quiet2 {P : Ending → Prop} {S : NSt} {f : FuncId} {args : Array Value} (H : Bth p s y s2 L w) (h : ∀ L', RF y s2 L' w → Calls Try.prog f args w fun e w' => P e ∧ RF y S L' w') :
    Calls Try.prog f args w fun e w' => P e ∧ Bth p s y S L w' :=
  (H.lift2 (α := Unit) (P := fun _ e => P e) (S := fun _ => S) (X := fun _ => []) fun L' h' => (h L' h').mono fun e w' ⟨a, b⟩ => ⟨(), a, b⟩).mono fun e w' ⟨_, a, b⟩ => ⟨a, b⟩
/-- One that is handed out. -/
theorem Bth.out1 {bs : List Int} {u : Value} {S : NSt} {f : FuncId} {args : Array Value} (H : Bth p s y s2 L w) (h : ∀ L', NAt p s L' w → Calls Try.prog f args w fun e w' => ∃ v, e = .returned (.tuple #[slV v, u]) ∧ NAt p S (grP ⟨v, bs⟩ :: L') w') :
    Calls Try.prog f args w fun e w' => ∃ v, e = .returned (.tuple #[slV v, u]) ∧ Bth p S y s2 (grP ⟨v, bs⟩ :: L) w' :=
  H.lift1 (α := SlT) (P := fun v e => e = .returned (.tuple #[slV v, u])) (S := fun _ => S) (X := fun v => [grP ⟨v, bs⟩]) h
theorem Bth.out2 {bs : List Int} {u : Value} {S : NSt} {f : FuncId} {args : Array Value} (H : Bth p s y s2 L w) (h : ∀ L', RF y s2 L' w → Calls Try.prog f args w fun e w' => ∃ v, e = .returned (.tuple #[slV v, u]) ∧ RF y S (grP ⟨v, bs⟩ :: L') w') :
    Calls Try.prog f args w fun e w' => ∃ v, e = .returned (.tuple #[slV v, u]) ∧ Bth p s y S (grP ⟨v, bs⟩ :: L) w' :=
  H.lift2 (α := SlT) (P := fun v e => e = .returned (.tuple #[slV v, u])) (S := fun _ => S) (X := fun v => [grP ⟨v, bs⟩]) h

theorem bytes_nil (w : World) : Calls Try.prog 40 #[.slice none 0 0, .slice none 0 0] w fun e w' => e = .returned (.bool true) ∧ w = w' := by
  have h2 := run_str (w := w) (a := none) (l := []) 0 (fun i hi => by cases hi) (fun _ => rfl)
  rw [List.length_nil] at h2
  generalize strOfNums [] = str at *
  go_enter Try.func40, Try.ntmps40
  go_wp2_with fail
  go_loop [14] (fun i => i = .int .i64 0) (fun _ => 0)
  case atStart => rfl
  case round =>
    obtain rfl := hrel
    go_wp2_with fail
    go_ret
    exact ⟨rfl, rfl⟩

/-- Drop, of both. -/
theorem b_drop1 (H : Bth p s y s2 L w) (ht : Tok 900000000 s.t) {a b : Int} (j : Int) (ha : okI a) (hb : okI b) :
    Calls Try.prog 28 #[ptrV p, .int .i64 a, .int .i64 b, .int .i64 j] w fun e w' => e = .returned (.int .i64 (if s.has a b j = true then 0 else 170)) ∧ Bth p (s.drop a b j) y s2 L w' := by
  unfold NSt.drop
  cases h : s.has a b j with
  | true =>
    rw [if_pos rfl, if_pos rfl]
    exact H.quiet1 fun L' h' => drop_yes h' (ht.mono (by omega)) ha hb h
  | false =>
    rw [if_neg (by simp), if_neg (by simp)]
    exact H.quiet1 fun L' h' => (drop_no h' ha hb h).mono fun e w' ⟨a, b⟩ => ⟨a, b ▸ h'⟩
theorem b_drop2 (H : Bth p s y s2 L w) (ht : Tok 900000000 s2.t) (hA : allF s2.n s2.F ≤ 1048576) (a b j : Int) :
    Calls Try.prog 41 #[ptrV y, .int .i64 a, .int .i64 b, .int .i64 j] w fun e w' => e = .returned (.int .i64 (if s2.has a b j = true then 0 else 170)) ∧ Bth p s y (s2.drop a b j) L w' := by
  unfold NSt.drop
  cases h : s2.has a b j with
  | true =>
    rw [if_pos rfl, if_pos rfl]
    exact H.quiet2 fun L' h' => rf_drop_yes h' ht hA h
  | false =>
    rw [if_neg (by simp), if_neg (by simp)]
    exact H.quiet2 fun L' h' => (rf_drop_no h' hA h).mono fun e w' ⟨a, b⟩ => ⟨a, b ▸ h'⟩
/-- Double, of both. -/
theorem b_double1 (H : Bth p s y s2 L w) (ht : Tok 900000000 s.t) {a b : Int} (j : Int) (ha : okI a) (hb : okI b) :
    Calls Try.prog 15 #[ptrV p, .int .i64 a, .int .i64 b, .int .i64 j] w fun e w' => e = .returned (.int .i64 (if s.has a b j = true then 0 else 170)) ∧ Bth p (s.dbl a b j) y s2 L w' := by
  unfold NSt.dbl
  cases h : s.has a b j with
  | true =>
    rw [if_pos rfl, if_pos rfl]
    exact H.quiet1 fun L' h' => double_yes h' (ht.mono (by omega)) ha hb h
  | false =>
    rw [if_neg (by simp), if_neg (by simp)]
    exact H.quiet1 fun L' h' => (double_no h' ha hb h).mono fun e w' ⟨a, b⟩ => ⟨a, b ▸ h'⟩
theorem b_double2 (H : Bth p s y s2 L w) (ht : Tok 900000000 s2.t) (hA : allF s2.n s2.F ≤ 1048576) (a b j : Int) (hl : (s2.the a b j).length ≤ 1100) (hk : s2.has a b j = true → (0 ≤ a ∧ a < (s2.n : Int)) ∧ (0 ≤ b ∧ b < (s2.n : Int))) :
    Calls Try.prog 42 #[ptrV y, .int .i64 a, .int .i64 b, .int .i64 j] w fun e w' => e = .returned (.int .i64 (if s2.has a b j = true then 0 else 170)) ∧ Bth p s y (s2.dbl a b j) L w' := by
  unfold NSt.dbl
  cases h : s2.has a b j with
  | true =>
    rw [if_pos rfl, if_pos rfl]
    exact H.quiet2 fun L' h' => rf_double_yes h' ht hA h hl (hk h)
  | false =>
    rw [if_neg (by simp), if_neg (by simp)]
    exact H.quiet2 fun L' h' => (rf_double_no h' hA h).mono fun e w' ⟨a, b⟩ => ⟨a, b ▸ h'⟩
/-- Flip, of both. -/
theorem b_flip1 (H : Bth p s y s2 L w) (ht : Tok 900000000 s.t) {a b bit : Int} (j : Int) (ha : okI a) (hb : okI b) (hbi : okI bit) :
    Calls Try.prog 12 #[ptrV p, .int .i64 a, .int .i64 b, .int .i64 j, .int .i64 bit] w fun e w' => e = .returned (.int .i64 (if s.has a b j = true ∧ 0 ≤ bit ∧ bit / 8 < (s.the a b j).length then 0 else 170)) ∧ Bth p (s.flp a b j bit) y s2 L w' := by
  unfold NSt.flp
  cases h : s.has a b j with
  | true =>
    by_cases hc : 0 ≤ bit ∧ bit / 8 < (s.the a b j).length
    · rw [if_pos ⟨rfl, hc⟩, if_pos ⟨rfl, hc⟩]
      exact H.quiet1 fun L' h' => flip_yes h' (ht.mono (by omega)) ha hb h hc
    · rw [if_neg (fun h => hc h.2), if_neg (fun h => hc h.2)]
      exact H.quiet1 fun L' h' => (flip_bad h' ha hb hbi h hc).mono fun e w' ⟨a, b⟩ => ⟨a, b ▸ h'⟩
  | false =>
    rw [if_neg (by simp), if_neg (by simp)]
    exact H.quiet1 fun L' h' => (flip_no h' ha hb h).mono fun e w' ⟨a, b⟩ => ⟨a, b ▸ h'⟩
theorem b_flip2 (H : Bth p s y s2 L w) (ht : Tok 900000000 s2.t) (hA : allF s2.n s2.F ≤ 1048576) (a b j bit : Int) (hl : (s2.the a b j).length ≤ 1100) :
    Calls Try.prog 43 #[ptrV y, .int .i64 a, .int .i64 b, .int .i64 j, .int .i64 bit] w fun e w' => e = .returned (.int .i64 (if s2.has a b j = true ∧ 0 ≤ bit ∧ bit / 8 < (s2.the a b j).length then 0 else 170)) ∧ Bth p s y (s2.flp a b j bit) L w' := by
  unfold NSt.flp
  cases h : s2.has a b j with
  | true =>
    by_cases hc : 0 ≤ bit ∧ bit / 8 < (s2.the a b j).length
    · rw [if_pos ⟨rfl, hc⟩, if_pos ⟨rfl, hc⟩]
      exact H.quiet2 fun L' h' => rf_flip_yes h' ht hA h hc hl
    · rw [if_neg (fun h => hc h.2), if_neg (fun h => hc h.2)]
      exact H.quiet2 fun L' h' => (rf_flip_bad h' hA h hc hl).mono fun e w' ⟨a, b⟩ => ⟨a, b ▸ h'⟩
  | false =>
    rw [if_neg (by simp), if_neg (by simp)]
    exact H.quiet2 fun L' h' => (rf_flip_no h' hA bit h).mono fun e w' ⟨a, b⟩ => ⟨a, b ▸ h'⟩
/-- Clear, of both. -/
def clrN (s : NSt) (dst : Int) : Int × Int := if 0 ≤ dst ∧ dst < s.n then ((cntTo (heldK s.n s.F) s.F dst (heldK s.n s.F).length : Nat), 0) else (0, 170)
theorem b_clear1 (H : Bth p s y s2 L w) (ht : Tok 900000000 s.t) (dst : Int) :
    Calls Try.prog 29 #[ptrV p, .int .i64 dst] w fun e w' => e = .returned (.tuple #[.int .i64 (clrN s dst).1, .int .i64 (clrN s dst).2]) ∧ Bth p (s.clr dst) y s2 L w' := by
  unfold NSt.clr clrN
  by_cases h : 0 ≤ dst ∧ dst < s.n
  · rw [if_pos h, if_pos h]
    exact H.quiet1 fun L' h' => clear_c h' (ht.mono (by omega)) h
  · rw [if_neg h, if_neg h]
    exact H.quiet1 fun L' h' => clear_no h' h
theorem b_clear2 (H : Bth p s y s2 L w) (ht : Tok 900000000 s2.t) (hA : allF s2.n s2.F ≤ 1048576) (dst : Int) :
    Calls Try.prog 44 #[ptrV y, .int .i64 dst] w fun e w' => e = .returned (.tuple #[.int .i64 (clrN s2 dst).1, .int .i64 (clrN s2 dst).2]) ∧ Bth p s y (s2.clr dst) L w' := by
  unfold NSt.clr clrN
  by_cases h : 0 ≤ dst ∧ dst < s2.n
  · rw [if_pos h, if_pos h]
    exact H.quiet2 fun L' h' => rf_clear_yes h' ht hA h
  · rw [if_neg h, if_neg h]
    exact H.quiet2 fun L' h' => (rf_clear_no h' h).mono fun e w' ⟨a, b⟩ => ⟨a, b ▸ h'⟩
end
end Go.Proofs.Ytnkahibddhchlaa
