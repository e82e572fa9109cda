/- Two states compared. -/
import Derived.Test.YtkoajbmomipjkaaDoorWith
import Derived.Deep.QuietTactic
import Derived.BigQuiet
namespace Go.Proofs.YtkoajbmomipjkaaDoor
open Go.RowKit
theorem fieldsSt : Tryd.prog.underlying 58 = some (.struct (Tryd.prog.fieldsOf 58)) := by kernel_rfl
theorem eq_state (d : Nat) (a b c e : Int) (w : World) : (Op.equalIn (d + 2) 58 (.agg #[.int .u64 a, .int .u64 b]) (.agg #[.int .u64 c, .int .u64 e])).run Tryd.prog w = .ok (decide (a = c ∧ b = e)) w := by
  rw [run_equalIn_agg _ _ _ _ _ fieldsSt (by kernel_rfl)]
  have hf : (Tryd.prog.fieldsOf 58).toList.map (fun f => (f.name, f.type, f.offset)) = [("next", 22, 0), ("mask", 22, 1)] := by kernel_rfl
  generalize (Tryd.prog.fieldsOf 58).toList = fs at hf
  rcases fs with _ | ⟨f0, _ | ⟨f1, _ | ⟨f2, r⟩⟩⟩ <;> simp only [List.map_cons, List.map_nil, List.cons.injEq, Prod.mk.injEq, and_true, and_false, reduceCtorEq] at hf
  obtain ⟨⟨n0, t0, o0⟩, n1, t1, o1⟩ := hf
  by_cases h1 : a = c <;> by_cases h2 : b = e <;> simp [Op.eqFields, n0, t0, o0, n1, t1, o1, h1, h2, go_sem]
theorem neq_state (a b c e : Int) (w : World) : (binOp .neq 58 (.agg #[.int .u64 a, .int .u64 b]) (.agg #[.int .u64 c, .int .u64 e])).run Tryd.prog w = .ok (.bool (!(decide (a = c ∧ b = e)))) w := by
  rw [run_neq_struct, eq_state 9998 a b c e w]
  rfl
end Go.Proofs.YtkoajbmomipjkaaDoor
