/- A slice of acts, opened to cells. -/
import Derived.Test.YtaibdcglhibglaaRows
import Derived.Test.YtaibdcglhibglaaJoinsL
import Derived.Test.YtaibdcglhibglaaWf
import Derived.Deep.Slices
import Derived.Deep.Fields
import Derived.ChangeSame
import Derived.Lib.SmallJoins
import Derived.ProofKit
import Derived.OpenShut
namespace Go.Proofs.Ytaibdcglhibglaa
open Go.Joins Go.ChangeShapes Go.WideShapes Go.RowKit Go.Deep
set_option linter.unusedVariables false

section
variable {H : Type} {enc : TypeId × Value → H} {W : World} {base : Nat} {held : Bool}
theorem cellsInt : Try.prog.cellsOf 3 = 1 := by kernel_rfl
theorem cellsB8 : Try.prog.cellsOf 5 = 1 := by kernel_rfl
theorem cellsAct : Try.prog.cellsOf 28 = 5 := by kernel_rfl

theorem open_act {fuel : Nat} {cs : List Value} {x : DataW H × List MemPlace} (hl : cs.length = 5) (h : DataW.trod enc Try.prog W base (fun _ => true) held fuel 28 cs = some x) :
    ∃ y : ActM, cs = [.int .i64 y.kind, .int .i64 y.A, .int .i64 y.B, .int .u8 y.set, .int .i64 y.N] ∧ (0 ≤ y.set ∧ y.set ≤ 255) := by
  match cs, hl with
  | [v0, v1, v2, v3, v4], _ =>
  obtain ⟨ys, n, -, -, -, hyl, hf⟩ := DataW.trod_struct Try.underlying28 h
  have h0 := hf 0 _ rfl
  have h1 := hf 1 _ rfl
  have h2 := hf 2 _ rfl
  have h3 := hf 3 _ rfl
  have h4 := hf 4 _ rfl
  have hyl : ys.length = 5 := hyl
  rw [List.getElem?_eq_getElem (by omega)] at h0 h1 h2 h3 h4
  simp only [List.getElem_toArray, List.getElem_cons_zero, List.getElem_cons_succ, cellsInt, cellsB8, List.drop, List.take] at h0 h1 h2 h3 h4
  obtain ⟨k, e0, -, -⟩ := DataW.trod_int Try.underlying3 h0
  obtain ⟨A, e1, -, -⟩ := DataW.trod_int Try.underlying3 h1
  obtain ⟨B, e2, -, -⟩ := DataW.trod_int Try.underlying3 h2
  obtain ⟨s, e3, -, hw⟩ := DataW.trod_int Try.underlying5 h3
  obtain ⟨N, e4, -, -⟩ := DataW.trod_int Try.underlying3 h4
  cases e0; cases e1; cases e2; cases e3; cases e4
  exact ⟨⟨k, A, B, s, N⟩, rfl, wf_b hw⟩

theorem open_acts {r : Reach} {b0 : Nat} {v : Value} {d : DataW H} {p : List MemPlace} (hv : Value.okWide Try.prog W r b0 22 v) (h : DataW.Trod enc Try.prog W base (fun _ => true) held 22 v d p) :
    ∃ (a : Option Addr) (len cap : Nat) (f : Nat → ActM), v = .slice a len cap ∧ (RdActs W a len f ∧ len ≤ 9223372036854775807) := by
  obtain ⟨a0, l0, c0, rfl⟩ := okWide_slice Try.underlying22 hv
  obtain ⟨fuel, hf⟩ := h
  rcases open_slice Try.underlying22 hf with ⟨hcs, _⟩ | ⟨y, l, c, m, n, D, Pl, hcs, _, hl, hm, hmm, _, hi⟩
  · simp [Value.cells] at hcs
    obtain ⟨rfl, rfl, rfl⟩ := hcs
    exact ⟨none, 0, 0, fun _ => ⟨0, 0, 0, 0, 0⟩, rfl, fun i hi => (by omega), by omega⟩
  · simp [Value.cells] at hcs
    obtain ⟨rfl, rfl, rfl⟩ := hcs
    simp only [if_true] at hmm
    subst hmm
    have key : ∀ i, i < l0 → ∃ (f : ActM) (b o : Nat), y = ⟨b, o, none⟩ ∧ ActAt W b (o + i * 5) f ∧ 0 ≤ f.set ∧ f.set ≤ 255 := by
      intro i hil
      obtain ⟨cs, hc, ht⟩ := hi i (by omega)
      rw [cellsAct] at hc
      obtain ⟨_, hcl, hat⟩ := World.cells?_some hc
      obtain ⟨f, rfl, r1⟩ := open_act hcl ht
      obtain ⟨cz, hcz, htz⟩ := hi 0 (by omega)
      rw [cellsAct] at hcz
      obtain ⟨_, hclz, hatz⟩ := World.cells?_some hcz
      have hz := hatz 0 (by omega)
      obtain ⟨b, o, sp⟩ := y
      have hs : sp = none := by
        obtain ⟨v0, hv0⟩ : ∃ v0, cz[0]? = some v0 := ⟨cz[0]'(by omega), List.getElem?_eq_getElem (by omega)⟩
        rw [hv0] at hz
        have : W.cell? ⟨b, o, sp⟩ = some v0 := by simpa [Addr.add] using hz
        simpa using World.cell?_spot this
      subst hs
      have hc' : ∀ j (h : j < 5), W.cell? ⟨b, o + i * 5 + j, none⟩ = [Value.int .i64 f.kind, .int .i64 f.A, .int .i64 f.B, .int .u8 f.set, .int .i64 f.N][j]? := fun j hj => by
        have := hat j hj
        rw [← this, Go.Deep.add_add, Addr.add_lit]
        congr 2
        omega
      exact ⟨f, b, o, rfl, ⟨hc' 0 (by omega), hc' 1 (by omega), hc' 2 (by omega), hc' 3 (by omega), hc' 4 (by omega)⟩, r1⟩
    refine ⟨some y, l0, _, fun i => if h : i < l0 then (key i h).choose else ⟨0, 0, 0, 0, 0⟩, rfl, fun i hil => ?_, by unfold maxLen at hm; omega⟩
    obtain ⟨b, o, h1, h2⟩ := (key i hil).choose_spec
    simp only [dif_pos hil]
    exact ⟨b, o, by rw [h1], h2⟩
end
end Go.Proofs.Ytaibdcglhibglaa
