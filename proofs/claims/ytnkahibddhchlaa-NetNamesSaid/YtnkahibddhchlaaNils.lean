/- Calls on none, and on a net that nobody made. Printed by gennils.py. -/
import Derived.Test.YtnkahibddhchlaaClear
namespace Go.Proofs.Ytnkahibddhchlaa
open Go.RowKit
set_option linter.unusedVariables false

def zB (b : Nat) : Pc := .blk b [.int .i64 0, .int .i64 0, .map none, .int .i64 0, .int .i64 0, .int .i64 0, .int .i64 0, .int .i64 0, .int .i64 0] 67
theorem none_nil (w : World) : Calls Try.prog 31 #[.pointer none] w fun e w' => e = .returned (.bool true) ∧ w = w' := by
  go_enter Try.func31, Try.ntmps31
  go_wp2_with fail
  go_ret
  exact ⟨rfl, rfl⟩
section
variable {b : Nat} {L : List Pc} {w : World}
theorem none_zero (H : SL w (zB b :: L)) : Calls Try.prog 31 #[ptrV b] w fun e w' => e = .returned (.bool true) ∧ w = w' := by
  have c := H.cell (o := 2) (.here _ _) rfl
  have hq := fun w => run_eql_map_nil (P := Try.prog) w 65 _ _ none Try.underlying65
  clear H
  unfold ptrV
  go_enter Try.func31, Try.ntmps31
  go_wp2_with fail
  go_ret
  exact ⟨rfl, rfl⟩
theorem find_nil (w : World) (x y j : Int) : Calls Try.prog 34 #[.pointer none, .int .i64 x, .int .i64 y, .int .i64 j] w fun e w' => e = .returned (.tuple #[.pointer none, .int .i64 1]) ∧ w = w' := by
  have h := Lib.hid (none_nil w)
  go_enter Try.func34, Try.ntmps34
  go_wp2_with fail
  refine h.out.mono ?_
  rintro e w' ⟨rfl, rfl⟩
  clear h
  go_wp2_with fail
  go_ret2
  exact ⟨rfl, rfl⟩
theorem find_zero (H : SL w (zB b :: L)) (x y j : Int) : Calls Try.prog 34 #[ptrV b, .int .i64 x, .int .i64 y, .int .i64 j] w fun e w' => e = .returned (.tuple #[.pointer none, .int .i64 1]) ∧ w = w' := by
  have h := Lib.hid (none_zero H)
  clear H
  unfold ptrV at *
  go_enter Try.func34, Try.ntmps34
  go_wp2_with fail
  refine h.out.mono ?_
  rintro e w' ⟨rfl, rfl⟩
  clear h
  go_wp2_with fail
  go_ret2
  exact ⟨rfl, rfl⟩
theorem deliver_nil (w : World) (x y j : Int) : Calls Try.prog 14 #[.pointer none, .int .i64 x, .int .i64 y, .int .i64 j] w fun e w' => e = .returned (.tuple #[.slice none 0 0, .int .i64 1]) ∧ w = w' := by
  have h := Lib.hid (find_nil w x y j)
  go_enter Try.func14, Try.ntmps14
  go_wp2_with fail
  refine h.out.mono ?_
  rintro e w' ⟨rfl, rfl⟩
  clear h
  go_wp2_with fail
  go_ret2
  exact ⟨rfl, rfl⟩
theorem double_nil (w : World) (x y j : Int) : Calls Try.prog 15 #[.pointer none, .int .i64 x, .int .i64 y, .int .i64 j] w fun e w' => e = .returned (.int .i64 1) ∧ w = w' := by
  have h := Lib.hid (find_nil w x y j)
  go_enter Try.func15, Try.ntmps15
  go_wp2_with fail
  refine h.out.mono ?_
  rintro e w' ⟨rfl, rfl⟩
  clear h
  go_wp2_with fail
  go_ret
  exact ⟨rfl, rfl⟩
theorem send_nil (w : World) (x y : Int) : Calls Try.prog 11 #[.pointer none, .int .i64 x, .int .i64 y, .slice none 0 0] w fun e w' => e = .returned (.int .i64 1) ∧ w = w' := by
  have h := Lib.hid (none_nil w)
  go_enter Try.func11, Try.ntmps11
  go_wp2_with fail
  refine h.out.mono ?_
  rintro e w' ⟨rfl, rfl⟩
  clear h
  go_wp2_with fail
  go_ret
  exact ⟨rfl, rfl⟩
theorem drop_zero (H : SL w (zB b :: L)) (x y j : Int) : Calls Try.prog 28 #[ptrV b, .int .i64 x, .int .i64 y, .int .i64 j] w fun e w' => e = .returned (.int .i64 1) ∧ w = w' := by
  have h := Lib.hid (find_zero H x y j)
  clear H
  unfold ptrV at *
  go_enter Try.func28, Try.ntmps28
  go_wp2_with fail
  refine h.out.mono ?_
  rintro e w' ⟨rfl, rfl⟩
  clear h
  go_wp2_with fail
  go_ret
  exact ⟨rfl, rfl⟩
theorem flip_zero (H : SL w (zB b :: L)) (x y j k : Int) : Calls Try.prog 12 #[ptrV b, .int .i64 x, .int .i64 y, .int .i64 j, .int .i64 k] w fun e w' => e = .returned (.int .i64 1) ∧ w = w' := by
  have h := Lib.hid (find_zero H x y j)
  clear H
  unfold ptrV at *
  go_enter Try.func12, Try.ntmps12
  go_wp2_with fail
  refine h.out.mono ?_
  rintro e w' ⟨rfl, rfl⟩
  clear h
  go_wp2_with fail
  go_ret
  exact ⟨rfl, rfl⟩
theorem peek_zero (H : SL w (zB b :: L)) (x y j : Int) : Calls Try.prog 13 #[ptrV b, .int .i64 x, .int .i64 y, .int .i64 j] w fun e w' => e = .returned (.tuple #[.slice none 0 0, .bool false]) ∧ w = w' := by
  have h := Lib.hid (find_zero H x y j)
  clear H
  unfold ptrV at *
  go_enter Try.func13, Try.ntmps13
  go_wp2_with fail
  refine h.out.mono ?_
  rintro e w' ⟨rfl, rfl⟩
  clear h
  go_wp2_with fail
  go_ret2
  exact ⟨rfl, rfl⟩
theorem traffic_nil (H : SL w L) : Calls Try.prog 20 #[.pointer none] w fun e w' => e = .returned (.agg (tfV t0).toArray) ∧ SL w' L := by
  have H1 := H.alloc [.int .i64 0, .int .i64 0, .int .i64 0, .int .i64 0, .int .i64 0, .int .i64 0] 50
  have hno := Lib.hid (fun V => none_nil V)
  have hH := Lib.hid H1
  clear H H1
  go_enter Try.func20, Try.ntmps20
  go_wp2_with fail
  refine (hno.out _).mono ?_
  rintro e w' ⟨rfl, rfl⟩
  generalize w.alloc (.cells [Value.int .i64 0, .int .i64 0, .int .i64 0, .int .i64 0, .int .i64 0, .int .i64 0].toArray 50) = w1 at *
  generalize w.heap.size = b at *
  have z0 := hH.out.cell (b := b) (o := 0) (.here _ _) rfl
  have z1 := hH.out.cell (b := b) (o := 1) (.here _ _) rfl
  have z2 := hH.out.cell (b := b) (o := 2) (.here _ _) rfl
  have z3 := hH.out.cell (b := b) (o := 3) (.here _ _) rfl
  have z4 := hH.out.cell (b := b) (o := 4) (.here _ _) rfl
  have z5 := hH.out.cell (b := b) (o := 5) (.here _ _) rfl
  have fz := fun o => hH.out.free (.here _ _) o
  have H9 := Lib.hid ((((((hH.out.setCell 0 (.int .i64 0)).setCell 1 (.int .i64 0)).setCell 2 (.int .i64 0)).setCell 3 (.int .i64 0)).setCell 4 (.int .i64 0)).setCell 5 (.int .i64 0))
  clear hno hH
  go_wp2_with fail
  generalize (((((w1.setCell ⟨b, 0, none⟩ (.int .i64 0)).setCell ⟨b, 1, none⟩ (.int .i64 0)).setCell ⟨b, 2, none⟩ (.int .i64 0)).setCell ⟨b, 3, none⟩ (.int .i64 0)).setCell ⟨b, 4, none⟩ (.int .i64 0)).setCell ⟨b, 5, none⟩ (.int .i64 0) = w2 at *
  have k0 := H9.out.cell (b := b) (o := 0) (.here _ _) rfl
  have k1 := H9.out.cell (b := b) (o := 1) (.here _ _) rfl
  have k2 := H9.out.cell (b := b) (o := 2) (.here _ _) rfl
  have k3 := H9.out.cell (b := b) (o := 3) (.here _ _) rfl
  have k4 := H9.out.cell (b := b) (o := 4) (.here _ _) rfl
  have k5 := H9.out.cell (b := b) (o := 5) (.here _ _) rfl
  refine bodyPost_ret (v := .agg (tfV t0).toArray) ?_ rfl ?_
  · simp [results, Try.results20, go_sem, k0, k1, k2, k3, k4, k5, tfV, t0]
  · exact ⟨rfl, H9.out.tail⟩
set_option maxHeartbeats 1000000 in
theorem len_nil (H : SL w L) (x y : Int) : Calls Try.prog 19 #[.pointer none, .int .i64 x, .int .i64 y] w fun e w' => e = .returned (.int .i64 0) ∧ SL w' L := by
  have hno := Lib.hid (fun V => none_nil V)
  have H1 := (H.alloc [.int .i64 x] 3).alloc [.int .i64 y] 3
  have hH := Lib.hid H1
  clear H H1
  refine calls_of_marks Try.func19 rfl ?_
  simp only [Try.ntmps19, List.size_toArray, List.length_cons, List.length_nil, Nat.reduceAdd, Nat.reduceSub, Array.replicate_succ, Array.replicate_zero, List.push_toArray, List.append_toArray, List.nil_append, List.cons_append]
  unfold ptrV at *
  gi_wp2_with (first | refine wpIn_label ?_ | refine scope_in ?_)
  refine ⟨trivial, rfl, calls_in ((hno.out _).mono ?_)⟩
  rintro e w' ⟨rfl, rfl⟩
  clear hno
  gi_wp2_with (first | refine wpIn_label ?_ | refine scope_in ?_)
  exact ⟨.int .i64 0, by simp [results, Try.results19, go_sem], rfl, hH.out.tail.tail⟩
set_option maxHeartbeats 1000000 in
theorem ways_nil (H : SL w L) : Calls Try.prog 21 #[.pointer none] w fun e w' => e = .returned (.slice none 0 0) ∧ SL w' L := by
  have hno := Lib.hid (fun V => none_nil V)
  have H1 := H
  have hH := Lib.hid H1
  clear H H1
  refine calls_of_marks Try.func21 rfl ?_
  simp only [Try.ntmps21, List.size_toArray, List.length_cons, List.length_nil, Nat.reduceAdd, Nat.reduceSub, Array.replicate_succ, Array.replicate_zero, List.push_toArray, List.append_toArray, List.nil_append, List.cons_append]
  unfold ptrV at *
  gi_wp2_with fail
  refine ⟨trivial, rfl, calls_in ((hno.out _).mono ?_)⟩
  rintro e w' ⟨rfl, rfl⟩
  clear hno
  gi_wp2_with fail
  exact ⟨.slice none 0 0, by simp [results, Try.results21, go_sem], rfl, hH.out⟩
set_option maxHeartbeats 1000000 in
theorem all_zero (H : SL w (zB b :: L)) : Calls Try.prog 16 #[ptrV b] w fun e w' => e = .returned (.int .i64 0) ∧ SL w' (zB b :: L) := by
  have hno := Lib.hid (fun V L' (h : SL V (zB b :: L')) => none_zero h)
  have H1 := H
  have hH := Lib.hid H1
  have hZ := hH
  clear H H1
  refine calls_of_marks Try.func16 rfl ?_
  simp only [Try.ntmps16, List.size_toArray, List.length_cons, List.length_nil, Nat.reduceAdd, Nat.reduceSub, Array.replicate_succ, Array.replicate_zero, List.push_toArray, List.append_toArray, List.nil_append, List.cons_append]
  unfold ptrV at *
  gi_wp2_with fail
  refine ⟨trivial, rfl, calls_in ((hno.out _ _ hZ.out).mono ?_)⟩
  rintro e w' ⟨rfl, rfl⟩
  clear hno
  gi_wp2_with fail
  exact ⟨.int .i64 0, by simp [results, Try.results16, go_sem], rfl, hH.out⟩
set_option maxHeartbeats 1000000 in
theorem clear_zero (H : SL w (zB b :: L)) (x : Int) : Calls Try.prog 29 #[ptrV b, .int .i64 x] w fun e w' => e = .returned (.tuple #[.int .i64 0, .int .i64 1]) ∧ SL w' (zB b :: L) := by
  have hno := Lib.hid (fun V L' (h : SL V (zB b :: L')) => none_zero h)
  have H1 := H.alloc [.int .i64 x] 3
  have hH := Lib.hid H1
  have hZ := Lib.hid H1.tail
  clear H H1
  refine calls_of_marks Try.func29 rfl ?_
  simp only [Try.ntmps29, List.size_toArray, List.length_cons, List.length_nil, Nat.reduceAdd, Nat.reduceSub, Array.replicate_succ, Array.replicate_zero, List.push_toArray, List.append_toArray, List.nil_append, List.cons_append]
  unfold ptrV at *
  gi_wp2_with fail
  refine ⟨trivial, rfl, calls_in ((hno.out _ _ hZ.out).mono ?_)⟩
  rintro e w' ⟨rfl, rfl⟩
  clear hno
  gi_wp2_with fail
  exact ⟨.tuple #[.int .i64 0, .int .i64 1], by simp [results, Try.results29, go_sem], rfl, hH.out.tail⟩
set_option maxHeartbeats 1000000 in
theorem copy_zero (H : SL w (zB b :: L)) : Calls Try.prog 30 #[ptrV b] w fun e w' => e = .returned (.pointer none) ∧ SL w' (zB b :: L) := by
  have hno := Lib.hid (fun V L' (h : SL V (zB b :: L')) => none_zero h)
  have H1 := H.alloc [ptrV b] 24
  have hH := Lib.hid H1
  have hZ := Lib.hid H1.tail
  clear H H1
  refine calls_of_marks Try.func30 rfl ?_
  simp only [Try.ntmps30, List.size_toArray, List.length_cons, List.length_nil, Nat.reduceAdd, Nat.reduceSub, Array.replicate_succ, Array.replicate_zero, List.push_toArray, List.append_toArray, List.nil_append, List.cons_append]
  unfold ptrV at *
  gi_wp2_with fail
  refine ⟨trivial, rfl, calls_in ((hno.out _ _ hZ.out).mono ?_)⟩
  rintro e w' ⟨rfl, rfl⟩
  clear hno
  gi_wp2_with fail
  exact ⟨.pointer none, by simp [results, Try.results30, go_sem], rfl, hH.out.tail⟩
end
end Go.Proofs.Ytnkahibddhchlaa
