/- A slice of structs that came in, opened to cells. -/
import Derived.Test.YtcjmkpphohkofaaRows
import Derived.Test.YtcjmkpphohkofaaFrame
import Derived.Deep.Slices
import Derived.Deep.Fields
import Derived.ChangeSame
import Derived.Lib.SmallJoins
import Derived.ProofKit
import Derived.OpenShut
namespace Go.Proofs.Ytcjmkpphohkofaa
open Go.Joins Go.ChangeShapes Go.WideShapes Go.RowKit Go.Deep
set_option linter.unusedVariables false

/-- What lies in a slice of elements of k cells each: the i-th has the cells f i, of which Q holds. -/
def RdSt (k : Nat) (Q : World → List Value → Prop) (W : World) (a : Option Addr) (len : Nat) (f : Nat → List Value) : Prop :=
  ∀ i, i < len → ∃ b o, a = some ⟨b, o, none⟩ ∧ (f i).length = k ∧ (∀ j (h : j < k), W.cell? ⟨b, o + i * k + j, none⟩ = (f i)[j]?) ∧ Q W (f i)
theorem RdSt.no {k : Nat} {Q : World → List Value → Prop} {w w' : World} {a : Option Addr} {len : Nat} {f : Nat → List Value} (hQ : ∀ l, Q w l → Q w' l) (h : RdSt k Q w a len f) (hk : Kp no w w') : RdSt k Q w' a len f := fun i hi => by
  obtain ⟨b, o, h1, h0, h2, h3⟩ := h i hi
  refine ⟨b, o, h1, h0, fun j hj => ?_, hQ _ h3⟩
  have := h2 j hj
  rw [List.getElem?_eq_getElem (by omega)] at this ⊢
  exact hk.cell this (fun h => h)

section
variable {P : Program} {H : Type} {enc : TypeId × Value → H} {W : World} {base : Nat} {held : Bool}
theorem open_st {tS tE : TypeId} {k : Nat} {Q : World → List Value → Prop} (hu : P.underlying tS = some (.slice tE)) (hc : P.cellsOf tE = k) (hk : 0 < k)
    (hE : ∀ (fuel : Nat) (cs : List Value) (x : DataW H × List MemPlace), cs.length = k → DataW.trod enc P W base (fun _ => true) held fuel tE cs = some x → Q W cs)
    {r : Reach} {b0 : Nat} {v : Value} {d : DataW H} {p : List MemPlace} (hv : Value.okWide P W r b0 tS v) (h : DataW.Trod enc P W base (fun _ => true) held tS v d p) :
    ∃ (a : Option Addr) (len cap : Nat) (f : Nat → List Value), v = .slice a len cap ∧ (RdSt k Q W a len f ∧ len ≤ 9223372036854775807 ∧ len ≤ cap ∧ (a = none → cap = 0)) := by
  obtain ⟨a0, l0, c0, rfl⟩ := okWide_slice hu hv
  obtain ⟨fuel, hf⟩ := h
  rcases open_slice hu hf with ⟨hcs, _⟩ | ⟨y, l, c, m, n, D, Pl, hcs, _, hl, hm, hmm, _, hi⟩
  · simp [Value.cells] at hcs
    obtain ⟨rfl, rfl, rfl⟩ := hcs
    exact ⟨none, 0, 0, fun _ => [], rfl, fun i hi => (by omega), by omega, by omega, fun _ => rfl⟩
  · simp [Value.cells] at hcs
    obtain ⟨rfl, rfl, rfl⟩ := hcs
    simp only [if_true] at hmm
    subst hmm
    have key : ∀ i, i < l0 → ∃ (f : List Value) (b o : Nat), y = ⟨b, o, none⟩ ∧ f.length = k ∧ (∀ j (h : j < k), W.cell? ⟨b, o + i * k + j, none⟩ = f[j]?) ∧ Q W f := by
      intro i hil
      obtain ⟨cs, hcc, ht⟩ := hi i (by omega)
      rw [hc] at hcc
      obtain ⟨_, hcl, hat⟩ := World.cells?_some hcc
      have h1 := hE _ _ _ hcl ht
      obtain ⟨cz, hcz, htz⟩ := hi 0 (by omega)
      rw [hc] at hcz
      obtain ⟨_, hclz, hatz⟩ := World.cells?_some hcz
      have hz := hatz 0 (by omega)
      obtain ⟨b, o, sp⟩ := y
      have hs : sp = none := by
        obtain ⟨v0, hv0⟩ : ∃ v0, cz[0]? = some v0 := ⟨cz[0]'(by omega), List.getElem?_eq_getElem (by omega)⟩
        rw [hv0] at hz
        have : W.cell? ⟨b, o, sp⟩ = some v0 := by simpa [Addr.add] using hz
        simpa using World.cell?_spot this
      subst hs
      refine ⟨cs, b, o, rfl, hcl, fun j hj => ?_, h1⟩
      have := hat j hj
      rw [← this, Go.Deep.add_add, Addr.add_lit]
      congr 2
      omega
    refine ⟨some y, l0, _, fun i => if h : i < l0 then (key i h).choose else [], rfl, fun i hil => ?_, by unfold maxLen at hm; omega, hl, fun h => by cases h⟩
    obtain ⟨b, o, h1, h0, h2, h3⟩ := (key i hil).choose_spec
    simp only [dif_pos hil]
    exact ⟨b, o, by rw [h1], h0, h2, h3⟩
end
end Go.Proofs.Ytcjmkpphohkofaa
