/- A datagram that came in, opened to cells; the walk of GramWrites over what came in. -/
import Derived.Test.YtilpkfgdlehmpaaDoorRows
import Derived.Test.YtilpkfgdlehmpaaDoorHelpG
import Derived.Deep.Slices
import Derived.Deep.Fields
import Derived.ChangeSame
import Derived.Lib.SmallJoins
import Derived.ProofKit
import Derived.OpenShut
namespace Go.Proofs.YtilpkfgdlehmpaaDoor
open Go.Joins Go.ChangeShapes Go.WideShapes Go.RowKit Go.Deep
set_option linter.unusedVariables false

section
variable {H : Type} {enc : TypeId × Value → H} {W : World} {base : Nat} {held : Bool}

theorem wf_byte {z : Int} (h : (Lit.int .u8 z).wf = true) : byteK z := by
  simp [Lit.wf, IntKind.min, IntKind.max, IntKind.signed, IntKind.bits] at h
  unfold byteK
  exact ⟨h.1, by have := h.2; omega⟩
theorem wf_i64 {z : Int} (h : (Lit.int .i64 z).wf = true) : I64 z := by
  simp [Lit.wf, IntKind.min, IntKind.max, IntKind.signed, IntKind.bits] at h
  unfold I64
  exact ⟨by have := h.1; omega, by have := h.2; omega⟩
theorem wf_u64 {z : Int} (h : (Lit.int .u64 z).wf = true) : U64 z := by
  simp [Lit.wf, IntKind.min, IntKind.max, IntKind.signed, IntKind.bits] at h
  unfold U64
  exact ⟨h.1, by have := h.2; omega⟩
/-- A row of bytes, read. -/
theorem isRow_rdB {w : World} {a : Option Addr} {len cap : Nat} {zs : List Int} (h : IsRow .u8 w a len cap zs) : ∃ ms : List Int, ms.length = len ∧ RdB w a ms ∧ (∀ x ∈ ms, byteK x) ∧ (a = none → cap = 0) := by
  obtain ⟨h1, h2, h3, h4⟩ := h.len
  have hzl : len ≤ zs.length := by rcases h3 with h3 | h3 <;> omega
  have hbl : (zs.take len).length = len := by rw [List.length_take]; omega
  refine ⟨zs.take len, hbl, ?_, fun x hx => wf_byte (h4 x (List.mem_of_mem_take hx)), ?_⟩
  · unfold RdB
    rw [hbl]
    refine h.rd.congr fun i hi => ?_
    rw [List.getD_eq_getElem?_getD, List.getD_eq_getElem?_getD, List.getElem?_take, if_pos hi]
  · rintro rfl
    rcases h with ⟨_, _, h, _⟩ | ⟨x, hx, _⟩
    · exact h
    · cases hx
theorem cellsG1 : Tryd.prog.cellsOf 3 = 1 := by kernel_rfl
theorem cellsG2 : Tryd.prog.cellsOf 22 = 1 := by kernel_rfl
theorem cellsG3 : Tryd.prog.cellsOf 23 = 1 := by kernel_rfl
theorem cellsG4 : Tryd.prog.cellsOf 5 = 1 := by kernel_rfl
theorem cellsG5 : Tryd.prog.cellsOf 25 = 9 := by kernel_rfl
set_option maxRecDepth 100000 in
theorem open_slice_byte {fuel : Nat} {cs : List Value} {x : DataW H × List MemPlace}
    (h : DataW.trod enc Tryd.prog W base (fun _ => true) held fuel 23 cs = some x) : ∃ (a : Option Addr) (ms : List Int) (c : Nat), cs = [.slice a ms.length c] ∧ RdB W a ms ∧ (∀ x ∈ ms, byteK x) ∧ (a = none → c = 0) := by
  rcases open_ints Tryd.underlying23 Tryd.underlying5 cellsG4 h with ⟨hcs, _⟩ | ⟨y, l, c, zs, hcs, _, hl, hm, hz, _, hcell, hwz⟩
  · exact ⟨none, [], 0, hcs, fun i hi => (by simp at hi), fun x hx => (by cases hx), fun _ => rfl⟩
  · obtain ⟨ms, h1, h2, h3, h4⟩ := isRow_rdB (.inr ⟨y, rfl, hl, hm, by simpa using hz, hcell, hwz⟩ : IsRow .u8 W (some y) l c zs)
    exact ⟨some y, ms, c, by rw [hcs, h1], h2, h3, (fun h => by cases h)⟩

set_option maxRecDepth 100000 in
theorem open_gram {r : Reach} {b0 : Nat} {v : Value} {d : DataW H} {p : List MemPlace} (hv : Value.okWide Tryd.prog W r b0 25 v) (h : DataW.Trod enc Tryd.prog W base (fun _ => true) held 25 v d p) :
    ∃ (g : Gm) (a : Option Addr) (c : Nat), v = gmV g (.slice a g.data.length c) ∧ (GmOk g ∧ RdB W a g.data ∧ (a = none → c = 0)) := by
  obtain ⟨cs, rfl, hsz⟩ := okWide_struct Tryd.underlying25 hv
  rw [cellsG5] at hsz
  obtain ⟨fuel, hf⟩ := h
  obtain ⟨cl⟩ := cs
  have hl : cl.length = 9 := hsz
  have hf : DataW.trod enc Tryd.prog W base (fun _ => true) held fuel 25 cl = some (d, p) := hf
  match cl, hl with
  | [v0, v1, v2, v3, v4, v5, v6, v7, v8], _ =>
  obtain ⟨ys, n, -, -, -, hyl, hg⟩ := DataW.trod_struct Tryd.underlying25 hf
  have h0 := hg 0 _ rfl
  have h1 := hg 1 _ rfl
  have h2 := hg 2 _ rfl
  have h3 := hg 3 _ rfl
  have h4 := hg 4 _ rfl
  have h5 := hg 5 _ rfl
  have h6 := hg 6 _ rfl
  have h7 := hg 7 _ rfl
  have h8 := hg 8 _ rfl
  have hyl : ys.length = 9 := hyl
  rw [List.getElem?_eq_getElem (by omega)] at h0 h1 h2 h3 h4 h5 h6 h7 h8
  simp only [List.getElem_toArray, List.getElem_cons_zero, List.getElem_cons_succ, cellsG1, cellsG2, cellsG3, List.drop, List.take] at h0 h1 h2 h3 h4 h5 h6 h7 h8
  obtain ⟨x0, e0, -, k0⟩ := DataW.trod_int Tryd.underlying3 h0
  obtain ⟨x1, e1, -, k1⟩ := DataW.trod_int Tryd.underlying3 h1
  obtain ⟨x2, e2, -, k2⟩ := DataW.trod_int Tryd.underlying3 h2
  obtain ⟨x3, e3, -, k3⟩ := DataW.trod_int Tryd.underlying22 h3
  obtain ⟨x4, e4, -, k4⟩ := DataW.trod_int Tryd.underlying3 h4
  obtain ⟨x5, e5, -, k5⟩ := DataW.trod_int Tryd.underlying22 h5
  obtain ⟨x6, e6, -, k6⟩ := DataW.trod_int Tryd.underlying22 h6
  obtain ⟨x7, e7, -, k7⟩ := DataW.trod_int Tryd.underlying22 h7
  obtain ⟨a, ms, c, e8, r1, r2, r3⟩ := open_slice_byte h8
  cases e0; cases e1; cases e2; cases e3; cases e4; cases e5; cases e6; cases e7; cases e8
  exact ⟨⟨x2, x0, x1, x3, x4, x5, x6, x7, ms⟩, a, c, rfl, ⟨wf_i64 k0, wf_i64 k1, wf_i64 k2, wf_u64 k3, wf_i64 k4, wf_u64 k5, wf_u64 k6, wf_u64 k7, r2⟩, r1, r3⟩
end

end Go.Proofs.YtilpkfgdlehmpaaDoor
