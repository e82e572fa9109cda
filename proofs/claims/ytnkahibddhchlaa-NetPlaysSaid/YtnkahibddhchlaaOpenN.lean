/- The arguments of the laws of nets, opened to cells. -/
import Derived.Test.YtnkahibddhchlaaRows
import Derived.Test.YtnkahibddhchlaaAlive
import Derived.Deep.Slices
import Derived.Deep.Fields
import Derived.ChangeSame
import Derived.Lib.SmallJoins
import Derived.ProofKit
import Derived.OpenShut
namespace Go.Proofs.Ytnkahibddhchlaa
open Go.Joins Go.ChangeShapes Go.WideShapes Go.RowKit Go.Deep
set_option linter.unusedVariables false

/-- A slice of bytes that came in. -/
structure InB where
  g : Option Addr
  c : Nat
  bs : List Int
def inV (x : InB) : Value := .slice x.g x.bs.length x.c
structure InOk (W : World) (x : InB) : Prop where
  rd : RdB W x.g x.bs
  nil : x.g = none → x.c = 0
  by' : By x.bs
  len : x.bs.length ≤ 9223372036854775807
theorem InOk.no {w w' : World} {x : InB} (h : InOk w x) (hk : Kp no w w') : InOk w' x := ⟨Rd.no h.rd hk, h.nil, h.by', h.len⟩
theorem InOk.empty {w : World} {x : InB} (h : InOk w x) (hg : x.g = none) : x.bs = [] := by
  by_cases h0 : x.bs = []
  · exact h0
  · obtain ⟨b, o, e, _⟩ := h.rd 0 (List.length_pos_iff.2 h0)
    rw [hg] at e; cases e

/-- The rows of a slice of slices. -/
def RdRows (W : World) (a : Option Addr) (len : Nat) (f : Nat → InB) : Prop := ∀ i, i < len → ∃ b o, a = some ⟨b, o, none⟩ ∧ W.cell? ⟨b, o + i, none⟩ = some (inV (f i)) ∧ InOk W (f i)
theorem RdRows.no {w w' : World} {a : Option Addr} {len : Nat} {f : Nat → InB} (h : RdRows w a len f) (hk : Kp no w w') : RdRows w' a len f := fun i hi => by
  obtain ⟨b, o, h1, h2, h3⟩ := h i hi
  exact ⟨b, o, h1, hk.cell h2 (fun h => h), h3.no hk⟩

structure OpI where
  kind : Int
  fr : Int
  dst : Int
  at' : Int
  bit : Int
  b : InB
structure OpOk (W : World) (x : OpI) : Prop where
  fr : okI x.fr
  dst : okI x.dst
  at' : okI x.at'
  bit : okI x.bit
  b : InOk W x.b
theorem OpOk.no {w w' : World} {x : OpI} (h : OpOk w x) (hk : Kp no w w') : OpOk w' x := ⟨h.fr, h.dst, h.at', h.bit, h.b.no hk⟩
def opV (x : OpI) : List Value := [.int .i64 x.kind, .int .i64 x.fr, .int .i64 x.dst, .int .i64 x.at', .int .i64 x.bit, inV x.b]
def RdOps (W : World) (a : Option Addr) (len : Nat) (f : Nat → OpI) : Prop := ∀ i, i < len → ∃ b o, a = some ⟨b, o, none⟩ ∧ (∀ j (h : j < 6), W.cell? ⟨b, o + i * 6 + j, none⟩ = (opV (f i))[j]?) ∧ OpOk W (f i)
theorem RdOps.no {w w' : World} {a : Option Addr} {len : Nat} {f : Nat → OpI} (h : RdOps w a len f) (hk : Kp no w w') : RdOps w' a len f := fun i hi => by
  obtain ⟨b, o, h1, h2, h3⟩ := h i hi
  refine ⟨b, o, h1, fun j hj => ?_, h3.no hk⟩
  have := h2 j hj
  rw [List.getElem?_eq_getElem (by simpa [opV] using hj)] at this ⊢
  exact hk.cell this (fun h => h)

section
variable {H : Type} {enc : TypeId × Value → H} {W : World} {base : Nat} {held : Bool}

theorem open_slice_byte {fuel : Nat} {cs : List Value} {x : DataW H × List MemPlace} (h : DataW.trod enc Try.prog W base (fun _ => true) held fuel 29 cs = some x) : ∃ y : InB, cs = [inV y] ∧ InOk W y := by
  rcases open_ints Try.underlying29 Try.underlying5 (by kernel_rfl) h with ⟨hcs, _⟩ | ⟨y, l, c, zs, hcs, _, hl, hm, hz, _, hcell, hwz⟩
  · exact ⟨⟨none, 0, []⟩, hcs, fun i hi => (by simp at hi), fun _ => rfl, fun z hz => (by cases hz), by simp⟩
  · have hrow : IsRow .u8 W (some y) l c zs := .inr ⟨y, rfl, hl, hm, by simpa using hz, hcell, hwz⟩
    have hz' : zs.length = c := by simpa using hz
    refine ⟨⟨some y, c, (List.range l).map fun i => zs.getD i 0⟩, by rw [hcs]; simp [inV], ?_, (fun h => by cases h), ?_, ?_⟩
    · unfold RdB
      simp only [List.length_map, List.length_range]
      exact hrow.rd.congr fun i hi => by simp [hi]
    · intro z hz
      obtain ⟨i, hi, rfl⟩ := List.mem_map.1 hz
      have hi' : i < l := by simpa using hi
      have hil : i < zs.length := by omega
      have := hwz (zs[i]'hil) (List.getElem_mem hil)
      simp [Lit.wf, IntKind.min, IntKind.max, IntKind.signed, IntKind.bits] at this
      rw [List.getD_eq_getElem?_getD, List.getElem?_eq_getElem hil]
      simp only [Option.getD_some]
      omega
    · simp only [List.length_map, List.length_range]
      unfold maxLen at hm
      omega

theorem at_plain {y : Addr} {m k : Nat} (hk : 0 < k) {cs : List Value} (hl : cs.length = k) (hat : ∀ j, j < k → W.cell? ((y.add (m * 0)).add j) = cs[j]?) (h0 : m * 0 = 0) : y.spot = none := by
  obtain ⟨b, o, sp⟩ := y
  obtain ⟨v0, hv0⟩ : ∃ v0, cs[0]? = some v0 := ⟨cs[0]'(by omega), List.getElem?_eq_getElem (by omega)⟩
  have hz := hat 0 hk
  rw [hv0] at hz
  have : W.cell? ⟨b, o, sp⟩ = some v0 := by simpa [Addr.add] using hz
  simpa using World.cell?_spot this

theorem open_rows {r : Reach} {b0 : Nat} {v : Value} {d : DataW H} {p : List MemPlace} (hv : Value.okWide Try.prog W r b0 22 v) (h : DataW.Trod enc Try.prog W base (fun _ => true) held 22 v d p) :
    ∃ (a : Option Addr) (len cap : Nat) (f : Nat → InB), v = .slice a len cap ∧ (RdRows W a len f ∧ len ≤ 9223372036854775807) := by
  obtain ⟨a0, l0, c0, rfl⟩ := okWide_slice Try.underlying22 hv
  obtain ⟨fuel, hf⟩ := h
  rcases open_slice Try.underlying22 hf with ⟨hcs, _⟩ | ⟨y, l, c, m, n, D, Pl, hcs, _, hl, hm, hmm, _, hi⟩
  · simp [Value.cells] at hcs
    obtain ⟨rfl, rfl, rfl⟩ := hcs
    exact ⟨none, 0, 0, fun _ => ⟨none, 0, []⟩, rfl, fun i hi => (by omega), by omega⟩
  · simp [Value.cells] at hcs
    obtain ⟨rfl, rfl, rfl⟩ := hcs
    simp only [if_true] at hmm
    subst hmm
    have cellsE : Try.prog.cellsOf 29 = 1 := by kernel_rfl
    have key : ∀ i, i < l0 → ∃ (f : InB) (b o : Nat), y = ⟨b, o, none⟩ ∧ W.cell? ⟨b, o + i, none⟩ = some (inV f) ∧ InOk W f := by
      intro i hil
      obtain ⟨cs, hc, ht⟩ := hi i (by omega)
      rw [cellsE] at hc
      obtain ⟨_, hcl, hat⟩ := World.cells?_some hc
      obtain ⟨f, rfl, h1⟩ := open_slice_byte ht
      have hz := hat 0 (by omega)
      obtain ⟨csz, hcz, htz⟩ := hi 0 (by omega)
      rw [cellsE] at hcz
      obtain ⟨_, hclz, hatz⟩ := World.cells?_some hcz
      have hz0 := hatz 0 (by omega)
      obtain ⟨b, o, sp⟩ := y
      have hs : sp = none := by
        obtain ⟨v0, hv0⟩ : ∃ v0, csz[0]? = some v0 := ⟨csz[0]'(by omega), List.getElem?_eq_getElem (by omega)⟩
        rw [hv0] at hz0
        have : W.cell? ⟨b, o, sp⟩ = some v0 := by simpa [Addr.add] using hz0
        simpa using World.cell?_spot this
      subst hs
      refine ⟨f, b, o, rfl, ?_, h1⟩
      have hz' : W.cell? ((⟨b, o, none⟩ : Addr).add (i * 1 + 0)) = some (inV f) := (congrArg W.cell? (Go.Deep.add_add (⟨b, o, none⟩ : Addr) (i * 1) 0)).symm.trans hz
      rw [Addr.add_lit, Nat.mul_one, Nat.add_zero] at hz'
      exact hz'
    refine ⟨some y, l0, _, fun i => if h : i < l0 then (key i h).choose else ⟨none, 0, []⟩, rfl, fun i hil => ?_, by unfold maxLen at hm; omega⟩
    obtain ⟨b, o, h1, h2, h3⟩ := (key i hil).choose_spec
    simp only [dif_pos hil]
    exact ⟨b, o, by rw [h1], h2, h3⟩

/-- The cells of a call. -/
theorem open_op {fuel : Nat} {cs : List Value} {x : DataW H × List MemPlace} (hl : cs.length = 6) (h : DataW.trod enc Try.prog W base (fun _ => true) held fuel 46 cs = some x) :
    ∃ y : OpI, cs = opV y ∧ OpOk W y := by
  match cs, hl with
  | [v0, v1, v2, v3, v4, v5], _ =>
  obtain ⟨ys, n, -, -, -, hyl, hf⟩ := DataW.trod_struct Try.underlying46 h
  have h0 := hf 0 _ rfl
  have h1 := hf 1 _ rfl
  have h2 := hf 2 _ rfl
  have h3 := hf 3 _ rfl
  have h4 := hf 4 _ rfl
  have h5 := hf 5 _ rfl
  have hyl : ys.length = 6 := hyl
  have cellsI : Try.prog.cellsOf 3 = 1 := by kernel_rfl
  have cellsS : Try.prog.cellsOf 29 = 1 := by kernel_rfl
  rw [List.getElem?_eq_getElem (by omega)] at h0 h1 h2 h3 h4 h5
  simp only [List.getElem_toArray, List.getElem_cons_zero, List.getElem_cons_succ, cellsI, cellsS, List.drop, List.take] at h0 h1 h2 h3 h4 h5
  obtain ⟨k, e0, -, -⟩ := DataW.trod_int Try.underlying3 h0
  obtain ⟨fr, e1, -, w1⟩ := DataW.trod_int Try.underlying3 h1
  obtain ⟨dst, e2, -, w2⟩ := DataW.trod_int Try.underlying3 h2
  obtain ⟨at', e3, -, w3⟩ := DataW.trod_int Try.underlying3 h3
  obtain ⟨bit, e4, -, w4⟩ := DataW.trod_int Try.underlying3 h4
  obtain ⟨b, e5, w5⟩ := open_slice_byte h5
  cases e0; cases e1; cases e2; cases e3; cases e4; cases e5
  exact ⟨⟨k, fr, dst, at', bit, b⟩, rfl, w1, w2, w3, w4, w5⟩

theorem open_ops {r : Reach} {b0 : Nat} {v : Value} {d : DataW H} {p : List MemPlace} (hv : Value.okWide Try.prog W r b0 41 v) (h : DataW.Trod enc Try.prog W base (fun _ => true) held 41 v d p) :
    ∃ (a : Option Addr) (len cap : Nat) (f : Nat → OpI), v = .slice a len cap ∧ (RdOps W a len f ∧ len ≤ 9223372036854775807 ∧ len ≤ cap) := by
  obtain ⟨a0, l0, c0, rfl⟩ := okWide_slice Try.underlying41 hv
  obtain ⟨fuel, hf⟩ := h
  rcases open_slice Try.underlying41 hf with ⟨hcs, _⟩ | ⟨y, l, c, m, n, D, Pl, hcs, _, hl, hm, hmm, _, hi⟩
  · simp [Value.cells] at hcs
    obtain ⟨rfl, rfl, rfl⟩ := hcs
    exact ⟨none, 0, 0, fun _ => ⟨0, 0, 0, 0, 0, none, 0, []⟩, rfl, fun i hi => (by omega), by omega, by omega⟩
  · simp [Value.cells] at hcs
    obtain ⟨rfl, rfl, rfl⟩ := hcs
    simp only [if_true] at hmm
    subst hmm
    have cellsOp : Try.prog.cellsOf 46 = 6 := by kernel_rfl
    have key : ∀ i, i < l0 → ∃ (f : OpI) (b o : Nat), y = ⟨b, o, none⟩ ∧ (∀ j (h : j < 6), W.cell? ⟨b, o + i * 6 + j, none⟩ = (opV f)[j]?) ∧ OpOk W f := by
      intro i hil
      obtain ⟨cs, hc, ht⟩ := hi i (by omega)
      rw [cellsOp] at hc
      obtain ⟨_, hcl, hat⟩ := World.cells?_some hc
      obtain ⟨f, rfl, h1⟩ := open_op hcl ht
      obtain ⟨cz, hcz, htz⟩ := hi 0 (by omega)
      rw [cellsOp] at hcz
      obtain ⟨_, hclz, hatz⟩ := World.cells?_some hcz
      have hz := hatz 0 (by omega)
      obtain ⟨b, o, sp⟩ := y
      have hs : sp = none := by
        obtain ⟨v0, hv0⟩ : ∃ v0, cz[0]? = some v0 := ⟨cz[0]'(by omega), List.getElem?_eq_getElem (by omega)⟩
        rw [hv0] at hz
        have : W.cell? ⟨b, o, sp⟩ = some v0 := by simpa [Addr.add] using hz
        simpa using World.cell?_spot this
      subst hs
      refine ⟨f, b, o, rfl, fun j hj => ?_, h1⟩
      have := hat j hj
      rw [← this, Go.Deep.add_add, Addr.add_lit]
      congr 2
      omega
    refine ⟨some y, l0, _, fun i => if h : i < l0 then (key i h).choose else ⟨0, 0, 0, 0, 0, none, 0, []⟩, rfl, fun i hil => ?_, by unfold maxLen at hm; omega, hl⟩
    obtain ⟨b, o, h1, h2, h3⟩ := (key i hil).choose_spec
    simp only [dif_pos hil]
    exact ⟨b, o, by rw [h1], h2, h3⟩
end
end Go.Proofs.Ytnkahibddhchlaa
