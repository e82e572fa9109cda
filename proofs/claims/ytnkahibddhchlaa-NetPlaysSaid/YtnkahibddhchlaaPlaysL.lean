/- NetPlays: what is left, delivered. -/
import Derived.Test.YtnkahibddhchlaaPlaysW17
namespace Go.Proofs.Ytnkahibddhchlaa
open Go.RowKit Go.Shelf
set_option linter.unusedVariables false

/-- One that is delivered from the place 0. -/
def NSt.dl (s : NSt) (k : Ky) : NSt := { s.gone k.1 k.2 0 with t := { s.t with delivered := s.t.delivered + 1 } }
theorem dl_F (s : NSt) (k : Ky) : (s.dl k).F = upd s.F k ((s.F k).eraseIdx 0) := rfl
theorem dl_tok {s : NSt} {k : Ky} (h1 : 0 ≤ k.1 ∧ k.1 < s.n) (h2 : 0 ≤ k.2 ∧ k.2 < s.n) {B : Int} (hn : s.F k ≠ []) (ht : Tok (B - (allF s.n s.F : Nat)) s.t) : Tok (B - (allF (s.dl k).n (s.dl k).F : Nat)) (s.dl k).t := by
  have h := allF_upd s.F h1 h2 ((s.F k).eraseIdx 0)
  have hl := List.length_pos_iff.2 hn
  rw [List.length_eraseIdx_of_lt hl] at h
  have e : (allF (s.dl k).n (s.dl k).F) + 1 = allF s.n s.F := by rw [dl_F]; show allF s.n _ + 1 = _; omega
  obtain ⟨a, b, c, d, f, g⟩ := ht
  exact ⟨⟨a.1, by show s.t.sent ≤ _; omega⟩, ⟨b.1, by show s.t.doubled ≤ _; omega⟩, ⟨by show 0 ≤ s.t.delivered + 1; omega, by show s.t.delivered + 1 ≤ _; omega⟩, ⟨d.1, by show s.t.dropped ≤ _; omega⟩, ⟨f.1, by show s.t.lost ≤ _; omega⟩, ⟨g.1, by show s.t.flipped ≤ _; omega⟩⟩
theorem dl_only {s : NSt} {k : Ky} {K : List Ky} (h : ∀ k', s.F k' ≠ [] → k' ∈ K) : ∀ k', (s.dl k).F k' ≠ [] → k' ∈ K := by
  intro k' h'
  refine h k' fun e => h' ?_
  rw [dl_F]
  by_cases hk : k' = k
  · subst hk; rw [upd_self, e]; rfl
  · rw [upd_other _ _ hk, e]
def DlR (p y : Nat) (K : List Ky) (N : Nat) (L : List Pc) (V : World) : Prop := ∃ s, Bth p s y s L V ∧ Tok (600000000 - (allF s.n s.F : Nat)) s.t ∧ s.n = N ∧ ∀ k, s.F k ≠ [] → k ∈ K
theorem held_mem {s : NSt} {p : Nat} {L : List Pc} {w : World} (H : NAt p s L w) : ∀ k, s.F k ≠ [] → k ∈ heldK s.n s.F := fun k hk => by
  obtain ⟨h1, h2, h3, h4, -⟩ := H.key hk
  exact List.mem_filter.2 ⟨mem_allK ⟨h1, h2⟩ ⟨h3, h4⟩, by simpa using hk⟩
theorem allF_nil {n : Nat} {F : Ky → List (List Int)} (h : ∀ k, F k ≠ [] → k ∈ ([] : List Ky)) : allF n F = 0 := by
  have h' : ∀ k, F k = [] := fun k => Classical.byContradiction fun e => by have := h k e; cases this
  unfold allF
  rw [show heldK n F = [] from List.filter_eq_nil_iff.2 (by simp [h'])]
  rfl
theorem held_key {n : Nat} {F : Ky → List (List Int)} : ∀ k ∈ heldK n F, (0 ≤ k.1 ∧ k.1 < (n : Int)) ∧ (0 ≤ k.2 ∧ k.2 < (n : Int)) := fun k hk => by
  have h := (List.mem_filter.1 hk).1
  obtain ⟨i, hi, rfl⟩ := List.mem_map.1 h
  have hi' : i < n * n := by simpa using hi
  have hn : 0 < n := by
    rcases Nat.eq_zero_or_pos n with h | h
    · subst h; simp at hi'
    · exact h
  have h1 : i / n < n := Nat.div_lt_of_lt_mul hi'
  have h2 := Nat.mod_lt i hn
  dsimp only
  exact ⟨⟨Int.natCast_nonneg _, by exact_mod_cast h1⟩, ⟨Int.natCast_nonneg _, by exact_mod_cast h2⟩⟩

section
variable {p y : Nat} {s : NSt} {L : List Pc} {w : World}
theorem b_len2 (H : Bth p s y s L w) (a b : Int) :
    Calls Try.prog 26 #[ptrV y, .int .i64 a, .int .i64 b] w fun e w' => e = .returned (.int .i64 ((s.F (a, b)).length : Nat)) ∧ Bth p s y s L w' :=
  H.quiet2 fun L' h => (rf_len h H.all a b).mono fun e w' ⟨h1, h2⟩ => ⟨h1, h2 ▸ h⟩
theorem has_at {k : Ky} (hn : s.F k ≠ []) : s.has k.1 k.2 0 = true := by
  have := List.length_pos_iff.2 hn
  unfold NSt.has
  exact decide_eq_true ⟨by omega, by show (0 : Int) < ((s.F k).length : Nat); omega⟩
theorem b_dl1 (H : Bth p s y s L w) (ht : Tok 900000000 s.t) {k : Ky} (h1 : 0 ≤ k.1 ∧ k.1 < s.n) (h2 : 0 ≤ k.2 ∧ k.2 < s.n) (hn : s.F k ≠ []) :
    Calls Try.prog 14 #[ptrV p, .int .i64 k.1, .int .i64 k.2, .int .i64 0] w fun e w' => ∃ v, e = .returned (.tuple #[slV v, .int .i64 0]) ∧ Bth p (s.dl k) y s (grP ⟨v, s.the k.1 k.2 0⟩ :: L) w' := by
  have h64 := H.n64
  have hh := has_at hn
  exact H.out1 fun L' h => deliver_yes h (ht.mono (by omega)) (okI_nat (by omega) (by omega)) (okI_nat (by omega) (by omega)) hh
theorem b_dl2 {s2 : NSt} (H : Bth p s2 y s L w) (hA : allF s.n s.F ≤ 1048576) (ht : Tok 900000000 s.t) {k : Ky} (hn : s.F k ≠ []) :
    Calls Try.prog 27 #[ptrV y, .int .i64 k.1, .int .i64 k.2, .int .i64 0] w fun e w' => ∃ v, e = .returned (.tuple #[slV v, .int .i64 0]) ∧ Bth p s2 y (s.dl k) (grP ⟨v, s.the k.1 k.2 0⟩ :: L) w' :=
  H.out2 fun L' h => rf_deliver_yes h ht hA (has_at hn)
end
end Go.Proofs.Ytnkahibddhchlaa
