/- Epochs compared; the walk of Lets. -/
import Derived.Test.YtaibdcglhibglaaMemN
import Derived.Test.YtaibdcglhibglaaSLRange
namespace Go.Proofs.Ytaibdcglhibglaa
open Go.RowKit
set_option linter.unusedVariables false

theorem fieldsEp : Try.prog.underlying 31 = some (.struct (Try.prog.fieldsOf 31)) := by kernel_rfl
theorem eq_epoch (d : Nat) (a b c e : Int) (w : World) : (Op.equalIn (d + 2) 31 (.agg #[.int .u32 a, .int .i64 b]) (.agg #[.int .u32 c, .int .i64 e])).run Try.prog w = .ok (decide (a = c ∧ b = e)) w := by
  rw [run_equalIn_agg _ _ _ _ _ fieldsEp (by kernel_rfl)]
  have hf : (Try.prog.fieldsOf 31).toList.map (fun f => (f.name, f.type, f.offset)) = [("N", 29, 0), ("By", 3, 1)] := by kernel_rfl
  generalize (Try.prog.fieldsOf 31).toList = fs at hf
  rcases fs with _ | ⟨f0, _ | ⟨f1, _ | ⟨f2, r⟩⟩⟩ <;> simp only [List.map_cons, List.map_nil, List.cons.injEq, Prod.mk.injEq, and_true, and_false, reduceCtorEq] at hf
  obtain ⟨⟨n0, t0, o0⟩, n1, t1, o1⟩ := hf
  by_cases h1 : a = c <;> by_cases h2 : b = e <;> simp [Op.eqFields, n0, t0, o0, n1, t1, o1, h1, h2, go_sem]
theorem eql_epoch (a b c e : Int) (w : World) : (binOp .eql 31 (.agg #[.int .u32 a, .int .i64 b]) (.agg #[.int .u32 c, .int .i64 e])).run Try.prog w = .ok (.bool (decide (a = c ∧ b = e))) w := by
  rw [run_eql_struct, eq_epoch 9998 a b c e w]
  rfl
theorem neq_epoch (a b c e : Int) (w : World) : (binOp .neq 31 (.agg #[.int .u32 a, .int .i64 b]) (.agg #[.int .u32 c, .int .i64 e])).run Try.prog w = .ok (.bool (!decide (a = c ∧ b = e))) w := by
  rw [run_neq_struct, eq_epoch 9998 a b c e w]
  rfl

section
variable {p : Nat} {self nodes disp N By gN gBy count : Int} {s j : Value} {owes : Bool} {L : List Pc} {w : World}
set_option maxHeartbeats 4000000 in
theorem lets_c (H : SL w (memB p self nodes disp N By s gN gBy owes j count :: L)) (hn : 1 ≤ nodes) (M Cy : Int) :
    Calls Try.prog 29 #[.pointer (some ⟨p, 0, none⟩), .agg #[.int .u32 M, .int .i64 Cy]] w fun r w' => r = .returned (.bool (decide (M = N ∧ Cy = By))) ∧ SL w' (memB p self nodes disp N By s gN gBy owes j count :: L) := by
  have H1 := H.alloc [.int .u32 M, .int .i64 Cy] 31
  have hH := Lib.hid H1
  have hnz : (nodes == 0) = false := by simp; omega
  have heq := fun V => eql_epoch M Cy N By V
  clear H H1 hn
  go_enter Try.func29, Try.ntmps29
  go_wp2_with fail
  generalize w.alloc (.cells #[.int .u32 M, .int .i64 Cy] 31) = w2 at *
  generalize w.heap.size = b1 at *
  have c0 := hH.out.cell (o := 0) (.here _ _) rfl
  have c1 := hH.out.cell (o := 1) (.here _ _) rfl
  have g3 := hH.out.cell (o := 3) (.there (.here _ _)) rfl
  have g4 := hH.out.cell (o := 4) (.there (.here _ _)) rfl
  have hno := Lib.hid (fun n => none_c ((hH.out.drewN n).re (.step (.there (.here _ _)) (.same _))))
  rw [hnz] at hno
  go_quiet ((go_at_call 32; exact quiet_eq (hno.out _)))
  have H3 := Lib.hid (hH.out.drewN nq)
  go_wp2_with fail
  go_ret
  exact ⟨by simp [Bool.decide_and], H3.out.re (.drop (.same _))⟩
end
end Go.Proofs.Ytaibdcglhibglaa
