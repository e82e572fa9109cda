/- The walks of the calls on none. -/
import Derived.Test.YtaibdcglhibglaaKs
import Derived.Test.YtaibdcglhibglaaOrderApp
namespace Go.Proofs.Ytaibdcglhibglaa
open Go.RowKit Go.Shelf
set_option linter.unusedVariables false
set_option linter.unusedSimpArgs false
attribute [local go_sem] Oper.semAt_some

section
variable {z : Nat} {L : List Pc} {w : World}
def zeroB (z : Nat) : Pc := memB z 0 0 0 0 0 (.slice none 0 0) 0 0 false (.map none) 0

theorem zero_no (H : SL w (zeroB z :: L)) : Calls Try.prog 32 #[.pointer (some ⟨z, 0, none⟩)] w fun r w' => r = .returned (.bool true) ∧ w = w' := none_c H

theorem owes_zero (H : SL w (zeroB z :: L)) : Calls Try.prog 23 #[.pointer (some ⟨z, 0, none⟩)] w fun r w' => r = .returned (.tuple #[.int .i64 0, .bool false]) ∧ w = w' := by
  have hno := Lib.hid (zero_no H)
  clear H
  go_enter Try.func23, Try.ntmps23
  go_wp2_with fail
  refine hno.out.mono ?_
  rintro r w' ⟨rfl, rfl⟩
  go_wp2_with fail
  go_ret2
  exact ⟨rfl, rfl⟩

theorem copy_zero (H : SL w (zeroB z :: L)) : Calls Try.prog 26 #[.pointer (some ⟨z, 0, none⟩)] w fun r w' => r = .returned (.pointer none) ∧ w = w' := by
  have hno := Lib.hid (zero_no H)
  clear H
  go_enter Try.func26, Try.ntmps26
  go_wp2_with fail
  refine hno.out.mono ?_
  rintro r w' ⟨rfl, rfl⟩
  go_wp2_with fail
  go_ret
  exact ⟨rfl, rfl⟩

theorem greatest_nil (H : SL w L) : Calls Try.prog 16 #[.pointer none] w fun r w' => r = .returned (.agg #[.int .u32 0, .int .i64 0]) ∧ SL w' L := by
  have hH := Lib.hid (H.alloc [.int .u32 0, .int .i64 0] 31)
  have hno := Lib.hid (none_nil (w.alloc (.cells [.int .u32 0, .int .i64 0].toArray 31)))
  clear H
  go_enter Try.func16, Try.ntmps16
  go_wp2_with fail
  refine hno.out.mono ?_
  rintro r w' ⟨rfl, rfl⟩
  go_wp2_with fail
  generalize w.alloc (.cells #[.int .u32 0, .int .i64 0] 31) = w2 at *
  generalize w.heap.size = b1 at *
  have k0 := hH.out.cell (o := 0) (.here _ _) rfl
  have k1 := hH.out.cell (o := 1) (.here _ _) rfl
  refine bodyPost_ret (v := .agg #[.int .u32 0, .int .i64 0]) ?_ rfl ⟨rfl, hH.out.tail⟩
  simp [results, Try.results16, go_sem, k0, k1]

theorem view_zero (H : SL w (zeroB z :: L)) : Calls Try.prog 10 #[.pointer (some ⟨z, 0, none⟩)] w fun r w' => r = .returned (.agg #[.int .u32 0, .int .i64 0, .slice none 0 0]) ∧ SL w' (zeroB z :: L) := by
  have hH := Lib.hid (H.alloc [.int .u32 0, .int .i64 0, .slice none 0 0] 34)
  have hno := Lib.hid (zero_no (hH.out.pull (.there (.here _ _))))
  clear H
  go_enter Try.func10, Try.ntmps10
  go_wp2_with fail
  refine hno.out.mono ?_
  rintro r w' ⟨rfl, rfl⟩
  go_wp2_with fail
  generalize w.alloc (.cells #[.int .u32 0, .int .i64 0, .slice none 0 0] 34) = w2 at *
  generalize w.heap.size = b1 at *
  have k0 := hH.out.cell (o := 0) (.here _ _) rfl
  have k1 := hH.out.cell (o := 1) (.here _ _) rfl
  have k2 := hH.out.cell (o := 2) (.here _ _) rfl
  refine bodyPost_ret (v := .agg #[.int .u32 0, .int .i64 0, .slice none 0 0]) ?_ rfl ⟨rfl, hH.out.tail⟩
  simp [results, Try.results10, go_sem, k0, k1, k2]

theorem heard_nil (H : SL w L) (M Cy : Int) : Calls Try.prog 11 #[.pointer none, .agg #[.int .u32 M, .int .i64 Cy]] w fun r w' => r = .returned (.int .i64 1) ∧ SL w' L := by
  have hH := Lib.hid (H.alloc [.int .u32 M, .int .i64 Cy] 31)
  have hno := Lib.hid (none_nil (w.alloc (.cells [.int .u32 M, .int .i64 Cy].toArray 31)))
  clear H
  go_enter Try.func11, Try.ntmps11
  go_wp2_with fail
  refine hno.out.mono ?_
  rintro r w' ⟨rfl, rfl⟩
  go_wp2_with fail
  go_ret
  exact ⟨rfl, hH.out.tail⟩

theorem joined_zero (H : SL w (zeroB z :: L)) (k M Cy n : Int) : Calls Try.prog 24 #[.pointer (some ⟨z, 0, none⟩), .int .i64 k, .agg #[.int .u32 M, .int .i64 Cy], .int .i64 n] w fun r w' => r = .returned (.int .i64 1) ∧ SL w' (zeroB z :: L) := by
  have hH := Lib.hid (H.alloc [.int .u32 M, .int .i64 Cy] 31)
  have hno := Lib.hid (zero_no (hH.out.pull (.there (.here _ _))))
  clear H
  go_enter Try.func24, Try.ntmps24
  go_wp2_with fail
  refine hno.out.mono ?_
  rintro r w' ⟨rfl, rfl⟩
  go_wp2_with fail
  go_ret
  exact ⟨rfl, hH.out.tail⟩

theorem lets_zero (H : SL w (zeroB z :: L)) (M Cy : Int) : Calls Try.prog 29 #[.pointer (some ⟨z, 0, none⟩), .agg #[.int .u32 M, .int .i64 Cy]] w fun r w' => r = .returned (.bool false) ∧ SL w' (zeroB z :: L) := by
  have hH := Lib.hid (H.alloc [.int .u32 M, .int .i64 Cy] 31)
  have hno := Lib.hid (fun n => zero_no ((hH.out.drewN n).pull (.there (.here _ _))))
  clear H
  go_enter Try.func29, Try.ntmps29
  go_wp2_with fail
  go_quiet ((go_at_call 32; exact quiet_eq (hno.out _)))
  go_wp2_with fail
  go_ret
  exact ⟨rfl, (hH.out.drewN _).tail⟩

theorem offer_nil (H : SL w L) (M Cy : Int) (g : Value) : Calls Try.prog 13 #[.pointer none, .agg #[.int .u32 M, .int .i64 Cy, g]] w fun r w' => r = .returned (.bool false) ∧ SL w' L := by
  have hH := Lib.hid (H.alloc [.int .u32 M, .int .i64 Cy, g] 34)
  clear H
  go_enter Try.func13, Try.ntmps13
  go_wp2_with fail
  generalize w.alloc (.cells #[.int .u32 M, .int .i64 Cy, g] 34) = w2 at *
  generalize w.heap.size = b1 at *
  go_quiet ((go_at_call 32; exact quiet_eq (none_nil _)))
  go_wp2_with fail
  go_ret
  exact ⟨rfl, (hH.out.drewN _).tail⟩

theorem propose_nil (H : SL w L) (g : Value) : Calls Try.prog 12 #[.pointer none, g] w fun r w' => r = .returned (.tuple #[.agg #[.int .u32 0, .int .i64 0, .slice none 0 0], .bool false]) ∧ SL w' L := by
  have hH := Lib.hid (H.alloc [.int .u32 0, .int .i64 0, .slice none 0 0] 34)
  clear H
  go_enter Try.func12, Try.ntmps12
  go_wp2_with fail
  generalize w.alloc (.cells #[.int .u32 0, .int .i64 0, .slice none 0 0] 34) = w2 at *
  generalize w.heap.size = b1 at *
  go_quiet ((go_at_call 32; exact quiet_eq (none_nil _)))
  have H3 := Lib.hid (hH.out.drewN nq)
  generalize w2.drewN nq = w3 at *
  clear hH
  have z0 := H3.out.cell (o := 0) (.here _ _) rfl
  have z1 := H3.out.cell (o := 1) (.here _ _) rfl
  have z2 := H3.out.cell (o := 2) (.here _ _) rfl
  have fz := fun o => H3.out.free (.here _ _) o
  have h8 := Lib.hid (((H3.out.setCell 0 (.int .u32 0)).setCell 1 (.int .i64 0)).setCell 2 (.slice none 0 0))
  clear H3
  go_wp2_with fail
  generalize ((w3.setCell ⟨b1, 0, none⟩ (.int .u32 0)).setCell ⟨b1, 1, none⟩ (.int .i64 0)).setCell ⟨b1, 2, none⟩ (.slice none 0 0) = w5 at *
  have k0 := h8.out.cell (o := 0) (.here _ _) rfl
  have k1 := h8.out.cell (o := 1) (.here _ _) rfl
  have k2 := h8.out.cell (o := 2) (.here _ _) rfl
  refine bodyPost_ret (v := .tuple #[.agg #[.int .u32 0, .int .i64 0, .slice none 0 0], .bool false]) ?_ rfl ⟨rfl, h8.out.tail⟩
  simp [results, Try.results12, go_sem, k0, k1, k2]

theorem ready_nil (H : SL w L) : Calls Try.prog 25 #[.pointer none] w fun r w' => r = .returned (.tuple #[.int .i64 0, .bool false]) ∧ SL w' L := by
  refine calls_of_marks Try.func25 rfl ?_
  simp only [Try.ntmps25, List.size_toArray, List.length_cons, List.length_nil, Nat.reduceAdd, Nat.reduceSub, Array.replicate_succ, Array.replicate_zero, List.push_toArray, List.append_toArray, List.nil_append, List.cons_append]
  gi_wp2_with fail
  have H1 := (H.alloc [.int .i64 0] 3).alloc [.bool false] 4
  rw [World.size_alloc] at H1
  generalize (w.alloc (.cells [Value.int .i64 0].toArray 3)).alloc (.cells [Value.bool false].toArray 4) = w1 at *
  generalize w.heap.size + 1 = q2 at *
  generalize w.heap.size = q1 at *
  have hq := H1.ne (.here _ _) (.here _ _)
  have hH := Lib.hid H1
  clear H H1
  refine wpIn_wide.2 ?_
  go_quiet ((go_at_call 32; exact quiet_eq (none_nil _)))
  have H2 := hH.out.drewN nq
  generalize w1.drewN nq = w2 at *
  have H3 := fin_two H2 (.int .i64 0) (.bool false)
  have z1 := H2.cell (b := q1) (o := 0) (by first | exact .here _ _ | exact .there (.here _ _) | exact .there (.there (.here _ _)) | exact .there (.there (.there (.here _ _))) | exact .there (.there (.there (.there (.here _ _)))) | exact .there (.there (.there (.there (.there (.here _ _))))) | exact .there (.there (.there (.there (.there (.there (.here _ _)))))) | exact .there (.there (.there (.there (.there (.there (.there (.here _ _))))))) | exact .there (.there (.there (.there (.there (.there (.there (.there (.here _ _)))))))) | exact .there (.there (.there (.there (.there (.there (.there (.there (.there (.here _ _))))))))) | exact .there (.there (.there (.there (.there (.there (.there (.there (.there (.there (.here _ _)))))))))) | exact .there (.there (.there (.there (.there (.there (.there (.there (.there (.there (.there (.here _ _))))))))))) | exact .there (.there (.there (.there (.there (.there (.there (.there (.there (.there (.there (.there (.here _ _)))))))))))) | exact .there (.there (.there (.there (.there (.there (.there (.there (.there (.there (.there (.there (.there (.here _ _)))))))))))))) rfl
  have z2 := H2.cell (b := q2) (o := 0) (by first | exact .here _ _ | exact .there (.here _ _) | exact .there (.there (.here _ _)) | exact .there (.there (.there (.here _ _))) | exact .there (.there (.there (.there (.here _ _)))) | exact .there (.there (.there (.there (.there (.here _ _))))) | exact .there (.there (.there (.there (.there (.there (.here _ _)))))) | exact .there (.there (.there (.there (.there (.there (.there (.here _ _))))))) | exact .there (.there (.there (.there (.there (.there (.there (.there (.here _ _)))))))) | exact .there (.there (.there (.there (.there (.there (.there (.there (.there (.here _ _))))))))) | exact .there (.there (.there (.there (.there (.there (.there (.there (.there (.there (.here _ _)))))))))) | exact .there (.there (.there (.there (.there (.there (.there (.there (.there (.there (.there (.here _ _))))))))))) | exact .there (.there (.there (.there (.there (.there (.there (.there (.there (.there (.there (.there (.here _ _)))))))))))) | exact .there (.there (.there (.there (.there (.there (.there (.there (.there (.there (.there (.there (.there (.here _ _)))))))))))))) rfl
  have f1 := H2.free (b := q1) (by first | exact .here _ _ | exact .there (.here _ _) | exact .there (.there (.here _ _)) | exact .there (.there (.there (.here _ _))) | exact .there (.there (.there (.there (.here _ _)))) | exact .there (.there (.there (.there (.there (.here _ _))))) | exact .there (.there (.there (.there (.there (.there (.here _ _)))))) | exact .there (.there (.there (.there (.there (.there (.there (.here _ _))))))) | exact .there (.there (.there (.there (.there (.there (.there (.there (.here _ _)))))))) | exact .there (.there (.there (.there (.there (.there (.there (.there (.there (.here _ _))))))))) | exact .there (.there (.there (.there (.there (.there (.there (.there (.there (.there (.here _ _)))))))))) | exact .there (.there (.there (.there (.there (.there (.there (.there (.there (.there (.there (.here _ _))))))))))) | exact .there (.there (.there (.there (.there (.there (.there (.there (.there (.there (.there (.there (.here _ _)))))))))))) | exact .there (.there (.there (.there (.there (.there (.there (.there (.there (.there (.there (.there (.there (.here _ _)))))))))))))) 0
  have f2 := H2.free (b := q2) (by first | exact .here _ _ | exact .there (.here _ _) | exact .there (.there (.here _ _)) | exact .there (.there (.there (.here _ _))) | exact .there (.there (.there (.there (.here _ _)))) | exact .there (.there (.there (.there (.there (.here _ _))))) | exact .there (.there (.there (.there (.there (.there (.here _ _)))))) | exact .there (.there (.there (.there (.there (.there (.there (.here _ _))))))) | exact .there (.there (.there (.there (.there (.there (.there (.there (.here _ _)))))))) | exact .there (.there (.there (.there (.there (.there (.there (.there (.there (.here _ _))))))))) | exact .there (.there (.there (.there (.there (.there (.there (.there (.there (.there (.here _ _)))))))))) | exact .there (.there (.there (.there (.there (.there (.there (.there (.there (.there (.there (.here _ _))))))))))) | exact .there (.there (.there (.there (.there (.there (.there (.there (.there (.there (.there (.there (.here _ _)))))))))))) | exact .there (.there (.there (.there (.there (.there (.there (.there (.there (.there (.there (.there (.there (.here _ _)))))))))))))) 0
  have hH3 := Lib.hid H3
  clear H2 H3 hH
  gi_wp2_with fail
  exact leave_ret (v := .tuple #[.int .i64 0, .bool false]) (ready_results hH3.out rfl rfl) ⟨rfl, hH3.out.tail.tail⟩
end

theorem cmpS_c {w : World} {L : List Pc} (H : SL w L) (N By M Cy : Int) {n : Int} (h : cmpE N By M Cy = n) : Calls Try.prog 14 #[.agg #[.int .u32 N, .int .i64 By], .agg #[.int .u32 M, .int .i64 Cy]] w fun e w' => e = .returned (.int .i64 n) ∧ SL w' L := by
  subst h
  exact (cmp_c N By M Cy w).mono fun _ _ ⟨e, h⟩ => ⟨e, H.quiet h⟩
theorem mayS_c {w : World} {L : List Pc} (H : SL w L) (M By nodes : Int) (l : List Int) (a : Option Addr) (m c : Nat) (hm : l.length = m) (hl : l.length ≤ 1000000) (hr : RdI w a l) {o : Bool} (h : mayM By l nodes = o) :
    Calls Try.prog 30 #[.agg #[.int .u32 M, .int .i64 By, .slice a m c], .int .i64 nodes] w fun r w' => r = .returned (.bool o) ∧ SL w' L := by
  subst h hm
  exact (may_c M By nodes l a c w hl hr).mono fun _ _ ⟨e, h⟩ => ⟨e, H.quiet h⟩
theorem newK_no {w : World} {L : List Pc} (H : SL w L) (self nodes disp : Int) (h : nodes < 1 ∨ 64 < nodes ∨ self < 0 ∨ disp < 0 ∨ nodes ≤ self ∨ nodes ≤ disp) :
    Calls Try.prog 17 #[.int .i64 self, .int .i64 nodes, .int .i64 disp] w fun e w' => e = .returned (.tuple #[.pointer none, .int .i64 240]) ∧ w = w' := new_no self nodes disp w h
end Go.Proofs.Ytaibdcglhibglaa
