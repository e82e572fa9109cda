/- The walk of GramReads, over what came in. -/
import Derived.Test.YtilpkfgdlehmpaaReads
namespace Go.Proofs.Ytilpkfgdlehmpaa
open Go.RowKit Go.Shelf
set_option linter.unusedVariables false

theorem reads_long (a : Option Addr) (len cap : Nat) (x y : Int) (w : World) (h : 2000 < (len : Int)) :
    Calls Try.prog 3 #[.slice a len cap, .int .i64 x, .int .i64 y] w fun e w' => e = .returned (.bool true) ∧ Below w.heap.size w w' := by
  go_enter Try.func3, Try.ntmps3
  go_wp2
  go_ret
  exact ⟨rfl, Below.refl _ _⟩
theorem walkReads (a : Option Addr) (len cap : Nat) (z : List Int) (x y : Int) (w : World) (h : IsRow .u8 w a len cap z) (w1 : (Lit.int .i64 x).wf = true) (w2 : (Lit.int .i64 y).wf = true) :
    Calls Try.prog 3 #[.slice a len cap, .int .i64 x, .int .i64 y] w fun e w' => e = .returned (.bool true) ∧ Below w.heap.size w w' := by
  by_cases hl : 2000 < (len : Int)
  · exact reads_long a len cap x y w hl
  · obtain ⟨h1, h2, h3, h4⟩ := h.len
    have hzl : len ≤ z.length := by rcases h3 with h3 | h3 <;> omega
    have hrd := h.rd
    have hbl : (z.take len).length = len := by rw [List.length_take]; omega
    refine (reads_c a len cap (z.take len) x y w hbl hl h1 h2 ?_ ?_ ?_).mono fun e w' hh => ⟨hh.1, hh.2.self_below⟩
    · rintro rfl
      rcases h with ⟨_, _, h, _⟩ | ⟨x, hx, _⟩
      · exact h
      · cases hx
    · unfold RdB
      rw [hbl]
      refine hrd.congr fun i hi => ?_
      rw [List.getD_eq_getElem?_getD, List.getD_eq_getElem?_getD, List.getElem?_take, if_pos hi]
    · intro c hc
      exact Crc.wf_u8 (h4 c (List.mem_of_mem_take hc))
end Go.Proofs.Ytilpkfgdlehmpaa
