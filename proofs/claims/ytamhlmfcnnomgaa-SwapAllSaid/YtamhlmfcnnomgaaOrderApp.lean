/- A region that draws its order: the step of an append. Nothing here names the program. -/
import Derived.Test.YtamhlmfcnnomgaaOrder
import Derived.Test.YtamhlmfcnnomgaaOwnK
namespace Go.Proofs.Ytamhlmfcnnomgaa
open Go.RowKit
set_option linter.unusedVariables false

theorem appL {P : Program} {md : Region.Mode} {l : List Oper} {Q : Exit → Act → World → Prop} {S : World → Prop} {i : Nat} {oi : Oper} {fuel : Nat} {listed : Array Bool} {a : Act} {w : World} (hi : l[i]? = some oi)
    (hr : Region.ready md l.toArray listed = [i]) (hgd : oi.guard = none) (s x : Operand) (t : TypeId) (ho : oi.op = .call { callee := .builtin .append, args := #[s, x], argTypes := #[t, t] })
    (v sl : Value) (hs : a.eval s = v) (hx : a.eval x = sl) {v' : Value} {w' : World} (hrun : (Builtin.append_ #[t, t] oi.type #[v, sl]).run P w = .ok v' w') (hS : S w')
    (h : S w' → wpAnyH P md l.toArray Q S fuel (listed.setIfInBounds i true) (a.put oi.dst v') w') : wpAnyH P md l.toArray Q S (fuel + 1) listed a w := by
  refine callL hi hr (fun K hK => ?_)
  have hw : Region.wanted oi (yielded l.toArray a.tmps) = true := by simp [Region.wanted, hgd]
  rw [if_pos hw]
  unfold Oper.wp execOp
  simp only [ho, resolve, invoke, builtin, Sem.run_bind, Sem.run_pure, Result.andThen_ok, List.map_toArray, List.map_cons, List.map_nil, hs, hx, hrun]
  exact hK.out _ _ hS h
/-- Two operations are ready: each may be the next. -/
theorem callL2 {P : Program} {md : Region.Mode} {l : List Oper} {Q : Exit → Act → World → Prop} {S : World → Prop} {i j : Nat} {oi oj : Oper} {fuel : Nat} {listed : Array Bool} {a : Act} {w : World} (hi : l[i]? = some oi) (hj : l[j]? = some oj)
    (hr : Region.ready md l.toArray listed = [i, j])
    (h : ∀ K' : Act → World → Prop, Shut (∀ a w, S w → (S w → wpAnyH P md l.toArray Q S fuel (listed.setIfInBounds i true) a w) → K' a w) → if Region.wanted oi (yielded l.toArray a.tmps) = true then Oper.wp P oi a w K' Q else K' (a.put oi.dst undef) w)
    (h2 : ∀ K' : Act → World → Prop, Shut (∀ a w, S w → (S w → wpAnyH P md l.toArray Q S fuel (listed.setIfInBounds j true) a w) → K' a w) → if Region.wanted oj (yielded l.toArray a.tmps) = true then Oper.wp P oj a w K' Q else K' (a.put oj.dst undef) w) :
    wpAnyH P md l.toArray Q S (fuel + 1) listed a w :=
  wpAnyH_ready hr (by simp) (AllReadyH.cons (by simpa using hi) h (AllReadyH.cons (by simpa using hj) h2 AllReadyH.nil))
end Go.Proofs.Ytamhlmfcnnomgaa
