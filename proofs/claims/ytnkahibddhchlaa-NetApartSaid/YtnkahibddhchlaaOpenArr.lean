/- An argument that is an array of integers, opened. Nothing here names the program. -/
import Derived.Test.YtnkahibddhchlaaFrame
import Derived.ChangeArms
import Derived.Lib.LaidTab
import Derived.Lib.SmallJoins
namespace Go.Proofs.Ytnkahibddhchlaa
open Go.ChangeShapes Go.WideShapes

theorem mapM_ints {H : Type} {enc : TypeId × Value → H} {P : Program} {e : TypeId} {q : IntKind} {W : World} {base : Nat} {sp : Nat → Bool} {held : Bool} (he : P.underlying e = some (.int q)) {m : Nat} {cs : List Value} :
    ∀ (L : List Nat) (xs : List (DataW H × List MemPlace)), (∀ i ∈ L, i < cs.length) → L.mapM (fun i => DataW.trod enc P W base sp held m e ((cs.drop (i * 1)).take 1)) = some xs →
    ∃ zs : List Int, (∀ j, j < L.length → cs[L.getD j 0]? = some (.int q (zs.getD j 0))) ∧ zs.length = L.length ∧ ∀ z ∈ zs, (Lit.int q z).wf = true
  | [], xs, _, h => ⟨[], by simp, rfl, by simp⟩
  | i :: L, xs, hl, h => by
    rw [List.mapM_cons] at h
    simp only [bind, Option.bind_eq_some_iff, pure, Option.some.injEq] at h
    obtain ⟨y, hy, ys, hys, rfl⟩ := h
    obtain ⟨zs, h1, h2, h3⟩ := mapM_ints he L ys (fun i hi => hl i (by simp [hi])) hys
    obtain ⟨a, ea, _, wa⟩ := DataW.trod_int he hy
    refine ⟨a :: zs, fun j hj => ?_, by simp [h2], by simpa [wa] using h3⟩
    cases j with
    | zero =>
      have hi := hl i (by simp)
      rw [Nat.mul_one] at ea
      have e0 := congrArg (fun l => l[0]?) ea
      rw [List.getElem?_take] at e0
      simpa [List.getElem?_drop] using e0
    | succ j =>
      have := h1 j (by simpa using hj)
      simpa using this

theorem open_arr_int {H : Type} {enc : TypeId × Value → H} {P : Program} {t e : TypeId} {n : Nat} {q : IntKind} {W : World} {base b0 : Nat} {sp : Nat → Bool} {held : Bool} {r : Reach} {v : Value} {d : DataW H} {ps : List MemPlace}
    (ht : P.underlying t = some (.array n e)) (he : P.underlying e = some (.int q)) (hce : P.cellsOf e = 1) (hct : P.cellsOf t = n)
    (hval : Value.okWide P W r b0 t v) (hd : DataW.Trod enc P W base sp held t v d ps) :
    ∃ zs : List Int, v = .agg (zs.map fun z => Value.int q z).toArray ∧ zs.length = n ∧ ∀ z ∈ zs, (Lit.int q z).wf = true := by
  simp only [Value.okWide, ht] at hval
  obtain ⟨cs, rfl, h2, _⟩ := hval
  obtain ⟨fuel, hf⟩ := hd
  cases fuel with
  | zero => simp [DataW.trod] at hf
  | succ m =>
    rw [DataW.trod_step] at hf
    unfold DataW.trodStep at hf
    simp only [ht, Value.cells, hce, hct, Nat.mul_one] at hf
    split at hf
    · rename_i hl
      simp only [Option.map_eq_some_iff] at hf
      obtain ⟨ys, hy, _⟩ := hf
      have hl' : cs.toList.length = n := by simpa using hl
      obtain ⟨zs, h1, h2, h3⟩ := mapM_ints (cs := cs.toList) he (List.range n) ys (fun i hi => by rw [hl']; simpa using hi) (by simpa using hy)
      refine ⟨zs, ?_, by simpa using h2, h3⟩
      congr 1
      apply Array.ext'
      apply List.ext_getElem?
      intro i
      by_cases hi : i < n
      · have := h1 i (by simpa using hi)
        rw [show (List.range n).getD i 0 = i from by simp [List.getD, hi]] at this
        rw [this]
        have : i < zs.length := by rw [h2]; simpa using hi
        simp [List.getD, this]
      · rw [List.getElem?_eq_none (by omega), List.getElem?_eq_none (by simp [h2]; omega)]
    · cases hf
end Go.Proofs.Ytnkahibddhchlaa
