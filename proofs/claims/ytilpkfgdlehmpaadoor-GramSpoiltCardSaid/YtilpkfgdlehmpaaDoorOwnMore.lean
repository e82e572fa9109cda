/- More on pieces of memory: a store into a slice of the call's own, an empty one. Nothing here names the program. -/
import Derived.Test.YtilpkfgdlehmpaaDoorSL
namespace Go.Proofs.YtilpkfgdlehmpaaDoor
open Go.RowKit
set_option linter.unusedVariables false

theorem own_store {w : World} {L : List Pc} {e : TypeId} {g n c : Nat} {xs : List Value} (H : SL w (.own e 1 (.slice (some ⟨g, 0, none⟩) n c) n xs :: L)) (i : Nat) (u : Value) :
    SL (w.setCell ⟨g, i, none⟩ u) (.own e 1 (.slice (some ⟨g, 0, none⟩) n c) n (xs.set i u) :: L) := by
  have h : OwnK w 0 e 1 (.slice (some ⟨g, 0, none⟩) n c) n xs := H.head
  refine H.upd (Kp.setCell (S := (Pc.own e 1 (.slice (some ⟨g, 0, none⟩) n c) n xs).foot) (Kp.refl _ w) (p := ⟨g, i, none⟩) (.inl (show some g = some g from rfl)) u) ?_ fun x hx => .inl hx
  obtain ⟨hl, h⟩ := h
  rcases h with ⟨h, _⟩ | ⟨g', cap', cur, hv, hb, hg, hn, hm, hs, ht⟩
  · cases h
  · cases hv
    refine ⟨by simpa using hl, .inr ⟨g, c, cur.setIfInBounds i u, rfl, hb, blk_setCell hg i u, hn, hm, by simpa using hs, ?_⟩⟩
    rw [Array.toList_setIfInBounds, List.take_set, ht]

theorem SL.empty {w : World} {L : List Pc} (H : SL w L) (e : TypeId) : SL (w.alloc (.cells #[] e)) (.own e 1 (.slice (some ⟨w.heap.size, 0, none⟩) 0 0) 0 [] :: L) :=
  H.new (q := .own e 1 (.slice (some ⟨w.heap.size, 0, none⟩) 0 0) 0 []) ((Kp.refl no w).alloc _) ⟨rfl, .inr ⟨_, 0, #[], rfl, Nat.zero_le _, blk_new w _, Nat.le_refl _, Nat.zero_le _, rfl, rfl⟩⟩ (fun x hx => Nat.le_of_eq (Option.some.inj hx))

/-- The cell of such a slice, for a store. -/
theorem own_cell {w : World} {e : TypeId} {g n c k : Nat} {xs : List Value} (h : OwnK w 0 e 1 (.slice (some ⟨g, 0, none⟩) n c) n xs) (hk : k < n) :
    w.cell? ⟨g, k, none⟩ = some (xs.getD k undef) ∧ w.frozen? ⟨g, k, none⟩ = false := by
  rcases OwnK.form h with ⟨h, _⟩ | ⟨g', cap, h, _, _, _, _, _, h6, h7⟩
  · cases h
  · cases h; exact ⟨h6 k (by omega), h7 k⟩
end Go.Proofs.YtilpkfgdlehmpaaDoor
