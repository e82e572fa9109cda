/- An end that no panic reaches: for a region that draws its order ahead of marks. Nothing here names the program. -/
import Derived.Test.YtilpkfgdlehmpaaDoorSLRange
import Derived.Deep.RegionHeld
import Derived.OrdersIn
namespace Go.Proofs.YtilpkfgdlehmpaaDoor
open Go.RowKit
set_option linter.unusedVariables false

def calm (Q : Exit → Act → World → Prop) : Exit → Act → World → Prop := fun e a w => match e with
  | .panic _ => False
  | e => Q e a w
theorem calm_wp {P : Program} {c : Code} {Q : Exit → Act → World → Prop} {a : Act} {w : World} (h : c.wp P (calm Q) a w) : c.wp P Q a w :=
  wpIn_wide.1 (wpIn_mono (wpIn_wide.2 h : c.wpIn Fence.wide 0 P (calm Q) a w) (fun e a w h => by
    cases e <;> first | exact h | exact h.elim))
theorem calm_normal {Q : Exit → Act → World → Prop} {a : Act} {w : World} (h : Q .normal a w) : calm Q .normal a w := h
/-- A region (or another piece of code) that ends in one way. -/
def onlyN (R : Act → World → Prop) : Exit → Act → World → Prop := fun e a w => match e with
  | .normal => R a w
  | _ => False
theorem only_wp {P : Program} {c : Code} {Q : Exit → Act → World → Prop} {a : Act} {w : World} (R : Act → World → Prop) (h : c.wp P (onlyN R) a w) (hQ : ∀ a w, R a w → Q .normal a w) : c.wp P Q a w :=
  wpIn_wide.1 (wpIn_mono (wpIn_wide.2 h : c.wpIn Fence.wide 0 P (onlyN R) a w) (fun e a w h => by
    cases e <;> first | exact hQ _ _ h | exact h.elim))
theorem only_wpIn {P : Program} {c : Code} {Q : Exit → Act → World → Prop} {a : Act} {w : World} (R : Act → World → Prop) (h : c.wp P (onlyN R) a w) (hQ : ∀ a w, R a w → Q .normal a w) : c.wpIn Fence.wide 0 P Q a w :=
  wpIn_wide.2 (only_wp R h hQ)

/-! ### A region in a round of a range over a function, walked as one outside -/
theorem oper_round {P : Program} {o : Oper} {a : Act} {w : World} {K K' : Act → World → Prop} {Q : Exit → Act → World → Prop} {l : Nat} (hd : ∀ c, o.op ≠ .defer c) (hK : ∀ a w, K a w → K' a w) (h : o.wp P a w K Q) : o.wpIn (Fence.wide.inRound l) 0 P a w K' Q := by
  refine ⟨fun _ _ => trivial, ?_⟩
  rw [show (Fence.wide.inRound l).round = some l from rfl, Oper.semAt_some l _ o hd]
  unfold Oper.wp at h
  generalize (execOp a.eval o).run P w = r at *
  cases r with
  | ok x w' =>
    cases x <;> simp only [Oper.upon] at h <;> simp only [Oper.uponIn]
    case value => exact hK _ _ h
    case skip => exact hK _ _ h
    case defer => exact hK _ _ h
    case enter f args =>
      refine ⟨fun h => (by cases h), calls_inR (h.mono fun e w'' he => ?_)⟩
      cases e <;> first | exact hK _ _ he | exact he
    case row row args => exact ⟨fun h => (by cases h), fun c cs _ => let ⟨v, w', r, s⟩ := h c cs; ⟨v, w', hK _ _ r, stepsIn_wide.2 s⟩⟩
  | halt x w' =>
    cases x <;> simp only [Oper.upon] at h <;> simp only [Oper.uponIn]
    all_goals exact h

theorem wpOp_round {P : Program} {ops : Array Oper} {Q : Exit → Act → World → Prop} {l i : Nat} {a : Act} {w : World} {K K' : Act → World → Prop} (hd : ∀ o ∈ ops.toList, ∀ c, o.op ≠ .defer c) (hQ : ¬ LetsOut Q) (hK : ∀ a w, K a w → K' a w)
    (h : wpOp P ops Q i K a w) : wpOpIn (Fence.wide.inRound l) 0 P ops Q i K' a w := by
  unfold wpOp at h
  unfold wpOpIn
  split
  · rename_i ho; simp only [ho] at h; exact hK _ _ h
  · rename_i o ho
    simp only [ho] at h
    have ho' : o ∈ ops.toList := Array.mem_toList_iff.2 (Array.mem_of_getElem? ho)
    split
    · rename_i hw
      rw [if_pos hw] at h
      rcases h with h | ⟨_, h⟩
      · exact oper_round (hd o ho') hK h
      · exact absurd h hQ
    · rename_i hw
      rw [if_neg hw] at h
      exact ⟨fun _ _ => trivial, hK _ _ h⟩

theorem wpAny_round {P : Program} {ops : Array Oper} {Q : Exit → Act → World → Prop} {l : Nat} {md : Region.Mode} (hd : ∀ o ∈ ops.toList, ∀ c, o.op ≠ .defer c) (hQ : ¬ LetsOut Q) :
    ∀ (fuel : Nat) (listed : Array Bool) (a : Act) (w : World), wpAny P md ops Q fuel listed a w → wpAnyIn (Fence.wide.inRound l) 0 P md ops Q fuel listed a w
  | 0, _, _, _, h => h
  | fuel + 1, _, _, _, h => ⟨h.1, fun i hi => wpOp_round hd hQ (fun a' w' h' => wpAny_round hd hQ fuel _ a' w' h') (h.2 i hi)⟩

def noDefer : Op → Bool
  | .defer _ => false
  | _ => true
/-- Ahead of a region that draws its order, in a round: the end is named, the region is walked as outside. -/
theorem region_round {P : Program} {id : Nat} {ops : Array Oper} {Q : Exit → Act → World → Prop} {a : Act} {w : World} {l : Nat} {S : World → Prop} (R : Act → World → Prop) (hm : P.follows .mixedOrders = true) (hd : ops.toList.all (fun o => noDefer o.op) = true) (hS : S w.drew)
    (h : S w.drew → wpAnyH P .any ops (onlyN R) S ops.size (Array.replicate ops.size false) a w.drew) (hQ : ∀ a w, R a w → Q .normal a w) : (Code.region id ops true).wpIn (Fence.wide.inRound l) 0 P Q a w := by
  have hd' : ∀ o ∈ ops.toList, ∀ c, o.op ≠ .defer c := fun o ho c e => by
    have := List.all_eq_true.1 hd o ho
    rw [e] at this
    cases this
  refine wpIn_mono (Q := onlyN R) (wpIn_region_any hm (wpAny_round hd' (by rintro ⟨_, _, h⟩; exact h) _ _ _ _ (wpAny_of_held _ _ _ _ (h hS)))) fun e a w h => ?_
  cases e <;> first | exact hQ _ _ h | exact h.elim
end Go.Proofs.YtilpkfgdlehmpaaDoor
