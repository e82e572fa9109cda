/- The calls that came in, opened to cells. -/
import Derived.Test.YtcjmkpphohkofaaOpenSt
import Derived.Test.YtcjmkpphohkofaaDropsL
namespace Go.Proofs.Ytcjmkpphohkofaa
open Go.Joins Go.ChangeShapes Go.WideShapes Go.RowKit Go.Deep
set_option linter.unusedVariables false

structure OpI where
  kind : Int
  key : Int
  n : Int
def opV (x : OpI) : List Value := [.int .i64 x.kind, .int .u64 x.key, .int .i64 x.n]
structure OpOk (x : OpI) : Prop where
  key : u64k x.key
  n : -9223372036854775808 ≤ x.n ∧ x.n ≤ 9223372036854775807
def IsOp (_ : World) (cs : List Value) : Prop := ∃ x : OpI, cs = opV x ∧ OpOk x
def RdOps (W : World) (a : Option Addr) (len : Nat) (f : Nat → OpI) : Prop := ∀ i, i < len → ∃ b o, a = some ⟨b, o, none⟩ ∧ OpOk (f i) ∧
  W.cell? ⟨b, o + i * 3, none⟩ = some (.int .i64 (f i).kind) ∧ W.cell? ⟨b, o + i * 3 + 1, none⟩ = some (.int .u64 (f i).key) ∧ W.cell? ⟨b, o + i * 3 + 2, none⟩ = some (.int .i64 (f i).n)
theorem RdOps.no {w w' : World} {a : Option Addr} {len : Nat} {f : Nat → OpI} (h : RdOps w a len f) (hk : Kp no w w') : RdOps w' a len f := fun i hi => by
  obtain ⟨b, o, h1, h2, h3, h4, h5⟩ := h i hi
  exact ⟨b, o, h1, h2, hk.cell h3 (fun h => h), hk.cell h4 (fun h => h), hk.cell h5 (fun h => h)⟩
section
variable {H : Type} {enc : TypeId × Value → H} {W : World} {base : Nat} {held : Bool}
theorem open_op {fuel : Nat} {cs : List Value} {x : DataW H × List MemPlace} (hl : cs.length = 3) (h : DataW.trod enc Try.prog W base (fun _ => true) held fuel 39 cs = some x) : IsOp W cs := by
  match cs, hl with
  | [v0, v1, v2], _ =>
  obtain ⟨ys, n, -, -, -, hyl, hf⟩ := DataW.trod_struct Try.underlying39 h
  have h0 := hf 0 _ rfl
  have h1 := hf 1 _ rfl
  have h2 := hf 2 _ rfl
  have hyl : ys.length = 3 := hyl
  have cellsI : Try.prog.cellsOf 3 = 1 := by kernel_rfl
  have cellsU : Try.prog.cellsOf 30 = 1 := by kernel_rfl
  rw [List.getElem?_eq_getElem (by omega)] at h0 h1 h2
  simp only [List.getElem_toArray, List.getElem_cons_zero, List.getElem_cons_succ, cellsI, cellsU, List.drop, List.take] at h0 h1 h2
  obtain ⟨k, e0, -, -⟩ := DataW.trod_int Try.underlying3 h0
  obtain ⟨y, e1, -, w1⟩ := DataW.trod_int Try.underlying30 h1
  obtain ⟨z, e2, -, w2⟩ := DataW.trod_int Try.underlying3 h2
  cases e0; cases e1; cases e2
  refine ⟨⟨k, y, z⟩, rfl, ?_, ?_⟩
  · simp [Lit.wf, IntKind.min, IntKind.max, IntKind.signed, IntKind.bits] at w1
    unfold u64k; dsimp only; omega
  · simp [Lit.wf, IntKind.min, IntKind.max, IntKind.signed, IntKind.bits] at w2
    dsimp only; omega
theorem open_ops {r : Reach} {b0 : Nat} {v : Value} {d : DataW H} {p : List MemPlace} (hv : Value.okWide Try.prog W r b0 37 v) (h : DataW.Trod enc Try.prog W base (fun _ => true) held 37 v d p) :
    ∃ (a : Option Addr) (len cap : Nat) (f : Nat → OpI), v = .slice a len cap ∧ (RdOps W a len f ∧ len ≤ 9223372036854775807 ∧ len ≤ cap) := by
  obtain ⟨a, len, cap, f, rfl, h1, h2, h3, -⟩ := open_st Try.underlying37 (show Try.prog.cellsOf 39 = 3 from by kernel_rfl) (by decide) (Q := IsOp) (fun fuel cs x hl h => open_op hl h) hv h
  refine ⟨a, len, cap, fun i => if h : i < len then (h1 i h).choose_spec.choose_spec.2.2.2.choose else ⟨0, 0, 0⟩, rfl, fun i hi => ?_, h2, h3⟩
  have hq := (h1 i hi).choose_spec.choose_spec
  have hx := hq.2.2.2.choose_spec
  simp only [dif_pos hi]
  refine ⟨_, _, hq.1, hx.2, ?_, ?_, ?_⟩
  · exact (hq.2.2.1 0 (by omega)).trans (congrArg (fun l : List Value => l[0]?) hx.1)
  · exact (hq.2.2.1 1 (by omega)).trans (congrArg (fun l : List Value => l[1]?) hx.1)
  · exact (hq.2.2.1 2 (by omega)).trans (congrArg (fun l : List Value => l[2]?) hx.1)
end
end Go.Proofs.Ytcjmkpphohkofaa
