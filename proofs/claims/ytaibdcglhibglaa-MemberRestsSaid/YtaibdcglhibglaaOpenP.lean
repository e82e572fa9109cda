/- The arguments of the laws of calls, opened to cells. -/
import Derived.Test.YtaibdcglhibglaaRows
import Derived.Test.YtaibdcglhibglaaGreat
import Derived.Deep.Slices
import Derived.Deep.Fields
import Derived.ChangeSame
import Derived.Lib.SmallJoins
import Derived.ProofKit
import Derived.OpenShut
namespace Go.Proofs.Ytaibdcglhibglaa
open Go.Joins Go.ChangeShapes Go.WideShapes Go.RowKit Go.Deep
set_option linter.unusedVariables false

section
variable {H : Type} {enc : TypeId × Value → H} {W : World} {base : Nat} {held : Bool}

theorem isRow_rdI {w : World} {a : Option Addr} {len cap : Nat} {zs : List Int} (h : IsRow .i64 w a len cap zs) : ∃ ms : List Int, ms.length = len ∧ RdI w a ms ∧ len ≤ 9223372036854775807 := by
  refine ⟨(List.range len).map fun i => zs.getD i 0, by simp, ?_, ?_⟩
  · unfold RdI
    rw [List.length_map, List.length_range]
    refine h.rd.congr fun i hi => ?_
    simp [hi]
  · have h1 := h.len.1
    have h2 := h.len.2.1
    unfold maxLen at h2
    omega

/-- A slice of integers, of its one cell. -/
theorem open_slice_int {t e : TypeId} {fuel : Nat} {cs : List Value} {x : DataW H × List MemPlace} (ht : Try.prog.underlying t = some (.slice e)) (he : Try.prog.underlying e = some (.int .i64)) (hc : Try.prog.cellsOf e = 1)
    (h : DataW.trod enc Try.prog W base (fun _ => true) held fuel t cs = some x) : ∃ (a : Option Addr) (ms : List Int) (c : Nat), cs = [.slice a ms.length c] ∧ RdI W a ms ∧ (a = none → c = 0) ∧ ms.length ≤ 9223372036854775807 := by
  rcases open_ints ht he hc h with ⟨hcs, _⟩ | ⟨y, l, c, zs, hcs, _, hl, hm, hz, _, hcell, hwz⟩
  · exact ⟨none, [], 0, hcs, fun i hi => (by simp at hi), fun _ => rfl, by simp⟩
  · obtain ⟨ms, h1, h2, h3⟩ := isRow_rdI (.inr ⟨y, rfl, hl, hm, by simpa using hz, hcell, hwz⟩ : IsRow .i64 W (some y) l c zs)
    exact ⟨some y, ms, c, by rw [hcs, h1], h2, (fun h => by cases h), by rw [h1]; exact h3⟩

theorem cellsI : Try.prog.cellsOf 3 = 1 := by kernel_rfl
theorem cellsV : Try.prog.cellsOf 34 = 3 := by kernel_rfl
theorem cellsEp : Try.prog.cellsOf 31 = 2 := by kernel_rfl
theorem cellsU : Try.prog.cellsOf 29 = 1 := by kernel_rfl
theorem cellsS : Try.prog.cellsOf 32 = 1 := by kernel_rfl
theorem cellsOp : Try.prog.cellsOf 55 = 6 := by kernel_rfl

/-- The cells of a call. -/
theorem open_op {fuel : Nat} {cs : List Value} {x : DataW H × List MemPlace} (hl : cs.length = 6) (h : DataW.trod enc Try.prog W base (fun _ => true) held fuel 55 cs = some x) :
    ∃ y : OpIn, cs = [.int .i64 y.o.kind, .int .u32 y.o.N, .int .i64 y.o.By, .slice y.g y.o.ms.length y.c, .int .i64 y.o.n, .int .i64 y.o.count] ∧ RdI W y.g y.o.ms ∧ (y.g = none → y.c = 0) ∧ (0 ≤ y.o.N ∧ y.o.N ≤ 4294967295) ∧ y.o.ms.length ≤ 9223372036854775807 := by
  match cs, hl with
  | [v0, v1, v2, v3, v4, v5], _ =>
  obtain ⟨ys, n, -, -, -, hyl, hf⟩ := DataW.trod_struct Try.underlying55 h
  have h0 := hf 0 _ rfl
  have h1 := hf 1 _ rfl
  have h2 := hf 2 _ rfl
  have h3 := hf 3 _ rfl
  have hyl : ys.length = 4 := hyl
  rw [List.getElem?_eq_getElem (by omega)] at h0 h1 h2 h3
  simp only [List.getElem_toArray, List.getElem_cons_zero, List.getElem_cons_succ, cellsI, cellsV, List.drop, List.take] at h0 h1 h2 h3
  obtain ⟨k, e0, -, -⟩ := DataW.trod_int Try.underlying3 h0
  obtain ⟨nn, e2, -, -⟩ := DataW.trod_int Try.underlying3 h2
  obtain ⟨cn, e3, -, -⟩ := DataW.trod_int Try.underlying3 h3
  obtain ⟨zs, n2, -, -, -, hzl, hg⟩ := DataW.trod_struct Try.underlying34 h1
  have g0 := hg 0 _ rfl
  have g1 := hg 1 _ rfl
  have hzl : zs.length = 2 := hzl
  rw [List.getElem?_eq_getElem (by omega)] at g0 g1
  simp only [List.getElem_toArray, List.getElem_cons_zero, List.getElem_cons_succ, cellsEp, cellsS, List.drop, List.take] at g0 g1
  obtain ⟨a, ms, c, e1, r1, r2, r3⟩ := open_slice_int Try.underlying32 Try.underlying3 cellsI g1
  obtain ⟨us, n3, -, -, -, hul, hk⟩ := DataW.trod_struct Try.underlying31 g0
  have k0 := hk 0 _ rfl
  have k1 := hk 1 _ rfl
  have hul : us.length = 2 := hul
  rw [List.getElem?_eq_getElem (by omega)] at k0 k1
  simp only [List.getElem_toArray, List.getElem_cons_zero, List.getElem_cons_succ, cellsU, cellsI, List.drop, List.take] at k0 k1
  obtain ⟨N, f0, -, hw⟩ := DataW.trod_int Try.underlying29 k0
  obtain ⟨By, f1, -, -⟩ := DataW.trod_int Try.underlying3 k1
  cases e0; cases e1; cases e2; cases e3; cases f0; cases f1
  refine ⟨⟨⟨k, N, By, ms, nn, cn⟩, a, c⟩, rfl, r1, r2, ?_, r3⟩
  simp [Lit.wf, IntKind.min, IntKind.max, IntKind.signed, IntKind.bits] at hw
  exact ⟨hw.1, by have := hw.2; omega⟩

theorem open_ops {r : Reach} {b0 : Nat} {v : Value} {d : DataW H} {p : List MemPlace} (hv : Value.okWide Try.prog W r b0 46 v) (h : DataW.Trod enc Try.prog W base (fun _ => true) held 46 v d p) :
    ∃ (a : Option Addr) (len cap : Nat) (f : Nat → OpIn), v = .slice a len cap ∧ (RdOps W a len f ∧ len ≤ 9223372036854775807) := by
  obtain ⟨a0, l0, c0, rfl⟩ := okWide_slice Try.underlying46 hv
  obtain ⟨fuel, hf⟩ := h
  rcases open_slice Try.underlying46 hf with ⟨hcs, _⟩ | ⟨y, l, c, m, n, D, Pl, hcs, _, hl, hm, hmm, _, hi⟩
  · simp [Value.cells] at hcs
    obtain ⟨rfl, rfl, rfl⟩ := hcs
    exact ⟨none, 0, 0, fun _ => ⟨⟨0, 0, 0, [], 0, 0⟩, none, 0⟩, rfl, fun i hi => (by omega), by omega⟩
  · simp [Value.cells] at hcs
    obtain ⟨rfl, rfl, rfl⟩ := hcs
    simp only [if_true] at hmm
    subst hmm
    have key : ∀ i, i < l0 → ∃ (f : OpIn) (b o : Nat), y = ⟨b, o, none⟩ ∧ OpAt W b (o + i * 6) f := by
      intro i hil
      obtain ⟨cs, hc, ht⟩ := hi i (by omega)
      rw [cellsOp] at hc
      obtain ⟨_, hcl, hat⟩ := World.cells?_some hc
      obtain ⟨f, rfl, r1, r2, r3, r4⟩ := open_op hcl ht
      obtain ⟨cz, hcz, htz⟩ := hi 0 (by omega)
      rw [cellsOp] at hcz
      obtain ⟨_, hclz, hatz⟩ := World.cells?_some hcz
      have hz := hatz 0 (by omega)
      obtain ⟨b, o, sp⟩ := y
      have hs : sp = none := by
        obtain ⟨v0, hv0⟩ : ∃ v0, cz[0]? = some v0 := ⟨cz[0]'(by omega), List.getElem?_eq_getElem (by omega)⟩
        rw [hv0] at hz
        have : W.cell? ⟨b, o, sp⟩ = some v0 := by simpa [Addr.add] using hz
        simpa using World.cell?_spot this
      subst hs
      have hc' : ∀ j (h : j < 6), W.cell? ⟨b, o + i * 6 + j, none⟩ = [Value.int .i64 f.o.kind, .int .u32 f.o.N, .int .i64 f.o.By, .slice f.g f.o.ms.length f.c, .int .i64 f.o.n, .int .i64 f.o.count][j]? := fun j hj => by
        have := hat j hj
        rw [← this, Go.Deep.add_add, Addr.add_lit]
        congr 2
        omega
      exact ⟨f, b, o, rfl, ⟨hc' 0 (by omega), hc' 1 (by omega), hc' 2 (by omega), hc' 3 (by omega), hc' 4 (by omega), hc' 5 (by omega)⟩, r1, r2, r3, r4⟩
    refine ⟨some y, l0, _, fun i => if h : i < l0 then (key i h).choose else ⟨⟨0, 0, 0, [], 0, 0⟩, none, 0⟩, rfl, fun i hil => ?_, by unfold maxLen at hm; omega⟩
    obtain ⟨b, o, h1, h2⟩ := (key i hil).choose_spec
    simp only [dif_pos hil]
    exact ⟨b, o, by rw [h1], h2⟩
end
end Go.Proofs.Ytaibdcglhibglaa
