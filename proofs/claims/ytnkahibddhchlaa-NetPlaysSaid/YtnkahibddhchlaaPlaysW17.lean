/- The walk of NetPlays: the plays. -/
import Derived.Test.YtnkahibddhchlaaPlaysN
namespace Go.Proofs.Ytnkahibddhchlaa
open Go.RowKit Go.Shelf
set_option linter.unusedVariables false

theorem b_new {p : Nat} {s : NSt} {L : List Pc} {w : World} (H : NAt p s L w) (h1 : 1 ≤ s.n) (h2 : s.n ≤ 64) (h3 : 1 ≤ s.room) (h4 : s.room ≤ 256) (ht : s.t = t0) (hF : ∀ k, s.F k = []) :
    Calls Try.prog 22 #[.int .i64 s.n, .int .i64 s.room] w fun e w' => ∃ y, e = .returned (.tuple #[ptrV y, .int .i64 0]) ∧ Bth p s y s L w' := by
  obtain ⟨N, hN, H⟩ := H.is
  refine (rnew_c s.n s.room h1 h2 h3 h4 H).mono ?_
  rintro e w' ⟨y, rfl, h⟩
  exact ⟨y, rfl, Bth.of hN ⟨_, h, rfl, rfl, ht.symm, fun k => by rw [hF]; rfl, by simp⟩⟩
def PlR (p y : Nat) (N R : Nat) (T : Int) (L : List Pc) (V : World) : Prop := ∃ s, Bth p s y s L V ∧ Tok T s.t ∧ Cons s ∧ s.n = N ∧ s.room = R
/-- How many the reference's list holds. -/
def lenAt (y : Nat) (V : World) : Nat := match V.cell? ⟨y, 2, none⟩ with
  | some (.slice _ n _) => n
  | _ => 0
theorem Bth.lenAt {p y : Nat} {s s2 : NSt} {L : List Pc} {w : World} (H : Bth p s y s2 L w) : lenAt y w = allF s2.n s2.F := by
  obtain ⟨⟨a, c, h⟩, -⟩ := H.cells
  unfold Proofs.Ytnkahibddhchlaa.lenAt
  rw [h]
theorem b_play_ok {p y : Nat} {s : NSt} {L : List Pc} {w : World} (H : Bth p s y s L w) {B : Int} (ht : Tok B s.t) (hc : Cons s) (o : OpI) : Tok (B + 1100000) (s.play o).t ∧ Cons (s.play o) ∧ (s.play o).n = s.n ∧ (s.play o).room = s.room := by
  obtain ⟨N, hN, H⟩ := H
  exact play_ok H ht hc o
end Go.Proofs.Ytnkahibddhchlaa
