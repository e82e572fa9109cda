/- The walk of SwapMoves. -/
import Derived.Test.YtamhlmfcnnomgaaRows
import Derived.Test.YtamhlmfcnnomgaaPlanS
import Derived.Deep.Slices
import Derived.Deep.Fields
import Derived.ChangeSame
import Derived.ProofKit
import Derived.OpenShut
namespace Go.Proofs.Ytamhlmfcnnomgaa
open Go.RowKit Go.ChangeShapes Go.WideShapes Go.Deep
set_option linter.unusedVariables false

theorem pre_any (mode p s r : Nat) (h1 : 1 ≤ p) (h2 : p ≤ 64) : (movesOf mode p s r).length ≤ 4096 := by
  have := pre_len mode p s r p h1
  have : p * p ≤ 64 * 64 := Nat.mul_le_mul h2 h2
  unfold movesOf; omega
theorem askL_len (P : Mv → Bool) (mode p s place round : Int) : (askL P mode p s place round).length ≤ 4096 := by
  unfold askL
  split
  · rename_i h
    have hok := (askE_ok h).1
    unfold okP at hok
    have := pre_any mode.toNat p.toNat s.toNat round.toNat (by omega) (by omega)
    have := List.length_filter_le P (movesOf mode.toNat p.toNat s.toNat round.toNat)
    omega
  · simp
theorem eql_sp (a b : Nat) (w : World) : (binOp .eql 29 (.agg #[.int .i64 a, .int .i64 b]) (.agg #[.int .i64 a, .int .i64 b])).run Try.prog w = .ok (.bool true) w := by
  rw [run_eql_struct]
  have := eq_span 9998 a b a b w
  rw [this]
  simp
set_option maxRecDepth 100000 in
set_option maxHeartbeats 8000000 in
theorem swapMoves_c (mode p s place round : Int) (w : World) (h0 : -9223372036854775808 ≤ p) (h1 : p ≤ 9223372036854775807) :
    Calls Try.prog 5 #[.agg #[.int .i64 mode, .int .i64 p, .int .i64 s, .int .i64 place, .int .i64 round]] w fun e w' => e = .returned (.bool true) ∧ Kp no w w' := by
  have H0 := (SL.start w).alloc [.int .i64 mode, .int .i64 p, .int .i64 s, .int .i64 place, .int .i64 round] 45
  have c1 := Lib.hid (fun w => held_any mode p s place round w h0 h1)
  have c2 := Lib.hid (fun w => rheld_any mode p s place round w)
  have c3 := Lib.hid (fun w => sends_any mode p s place round w h0 h1)
  have c4 := Lib.hid (fun L w (h : SL w L) => rsome_sends mode p s place round h)
  have c5 := Lib.hid (fun w => hears_any mode p s place round w h0 h1)
  have c6 := Lib.hid (fun L w (h : SL w L) => rsome_hears mode p s place round h)
  obtain ⟨a, b, hab⟩ : ∃ a b : Nat, heldV mode p s place round = .agg #[.int .i64 a, .int .i64 b] := by
    unfold heldV span
    split
    · exact ⟨_, _, rfl⟩
    · exact ⟨0, 0, rfl⟩
  rw [hab] at c1 c2
  have l1 := askL_len (frB place) mode p s place round
  have l2 := askL_len (toB place) mode p s place round
  generalize heldE mode p s place round = E1 at *
  generalize askE mode p s place round = E2 at *
  obtain ⟨A1, hA1⟩ : ∃ A1, askL (frB place) mode p s place round = A1 := ⟨_, rfl⟩
  obtain ⟨A2, hA2⟩ : ∃ A2, askL (toB place) mode p s place round = A2 := ⟨_, rfl⟩
  rw [hA1] at c3 c4 l1
  rw [hA2] at c5 c6 l2
  obtain ⟨n1, hn1⟩ : ∃ n1, A1.length = n1 := ⟨_, rfl⟩
  obtain ⟨n2, hn2⟩ : ∃ n2, A2.length = n2 := ⟨_, rfl⟩
  rw [hn1] at c3 c4 l1
  rw [hn2] at c5 c6 l2
  have hs1 : Hid (∀ (w : World) x y cx cy, RdM w x A1 → RdM w y A1 → Calls Try.prog 18 #[.slice x n1 cx, .slice y n1 cy] w fun e w' => e = .returned (.bool true) ∧ Kp no w w') := Lib.hid fun w x y cx cy hx hy => by
    refine (same_c x y A1 A1 n1 n1 cx cy w hn1.symm hn1.symm (by omega) hx hy).mono ?_
    rintro e w' ⟨rfl, n, rfl⟩
    exact ⟨by simp, (Kp.refl no w).drewN n⟩
  have hs2 : Hid (∀ (w : World) x y cx cy, RdM w x A2 → RdM w y A2 → Calls Try.prog 18 #[.slice x n2 cx, .slice y n2 cy] w fun e w' => e = .returned (.bool true) ∧ Kp no w w') := Lib.hid fun w x y cx cy hx hy => by
    refine (same_c x y A2 A2 n2 n2 cx cy w hn2.symm hn2.symm (by omega) hx hy).mono ?_
    rintro e w' ⟨rfl, n, rfl⟩
    exact ⟨by simp, (Kp.refl no w).drewN n⟩
  have hq := eql_sp a b
  have hH := Lib.hid H0
  have hn1' := Lib.hid hn1
  have hn2' := Lib.hid hn2
  have q0 := H0.cell (o := 0) (.here _ _) rfl
  have q1 := H0.cell (o := 1) (.here _ _) rfl
  have q2 := H0.cell (o := 2) (.here _ _) rfl
  have q3 := H0.cell (o := 3) (.here _ _) rfl
  have q4 := H0.cell (o := 4) (.here _ _) rfl
  dsimp only [List.toArray] at q0 q1 q2 q3 q4
  clear hab hA1 hA2 hn1 hn2 h0 h1 H0
  go_enter Try.func5, Try.ntmps5
  go_wp2_with fail
  generalize w.heap.size = X at *
  refine (c1.out _).mono ?_
  rintro e w1 ⟨rfl, k1⟩
  have H := (hH.out.quiet k1)
  clear hH q0 q1 q2 q3 q4 k1
  have q0 := H.cell (b := X) (o := 0) (.here _ _) rfl
  have q1 := H.cell (b := X) (o := 1) (.here _ _) rfl
  have q2 := H.cell (b := X) (o := 2) (.here _ _) rfl
  have q3 := H.cell (b := X) (o := 3) (.here _ _) rfl
  have q4 := H.cell (b := X) (o := 4) (.here _ _) rfl
  have hlt := blk_lt H.head
  have hH := Lib.hid (H.alloc [.int .i64 a, .int .i64 b] 29)
  dsimp only [List.toArray] at hH
  clear H
  go_wp2_with fail
  generalize w1.alloc (.cells #[.int .i64 a, .int .i64 b] 29) = w2 at *
  generalize w1.heap.size = Y at *
  refine (c2.out _).mono ?_
  rintro e w3 ⟨rfl, k3⟩
  have H := (hH.out.quiet k3)
  clear hH q0 q1 q2 q3 q4 k3 hlt
  have q0 := H.cell (b := X) (o := 0) (.there (.here _ _)) rfl
  have q1 := H.cell (b := X) (o := 1) (.there (.here _ _)) rfl
  have q2 := H.cell (b := X) (o := 2) (.there (.here _ _)) rfl
  have q3 := H.cell (b := X) (o := 3) (.there (.here _ _)) rfl
  have q4 := H.cell (b := X) (o := 4) (.there (.here _ _)) rfl
  have hlt := blk_lt H.tail.head
  have hH := Lib.hid (H.alloc [.int .i64 a, .int .i64 b] 29)
  dsimp only [List.toArray] at hH
  clear H
  go_wp2_with fail
  generalize w3.alloc (.cells #[.int .i64 a, .int .i64 b] 29) = w4 at *
  generalize w3.heap.size = Z at *
  refine (c3.out _).mono ?_
  rintro e w5 ⟨v5, rfl, o5, k5⟩
  obtain ⟨a5, p5, rfl, -⟩ := o5.slice
  have H := (hH.out.ofOwn k5 o5).re (.step (.there (.there (.there (.here _ _)))) (.same _))
  clear hH q0 q1 q2 q3 q4 k5 o5 hlt
  have q0 := H.cell (b := X) (o := 0) (.here _ _) rfl
  have q1 := H.cell (b := X) (o := 1) (.here _ _) rfl
  have q2 := H.cell (b := X) (o := 2) (.here _ _) rfl
  have q3 := H.cell (b := X) (o := 3) (.here _ _) rfl
  have q4 := H.cell (b := X) (o := 4) (.here _ _) rfl
  have hH := Lib.hid H
  clear H
  go_wp2_with fail
  refine (c4.out _ _ hH.out).mono ?_
  rintro e w6 ⟨v6, rfl, H⟩
  obtain ⟨a6, p6, rfl, -⟩ := (H.ownOf (.here _ _)).slice
  clear hH q0 q1 q2 q3 q4
  have q0 := H.cell (b := X) (o := 0) (.there (.here _ _)) rfl
  have q1 := H.cell (b := X) (o := 1) (.there (.here _ _)) rfl
  have q2 := H.cell (b := X) (o := 2) (.there (.here _ _)) rfl
  have q3 := H.cell (b := X) (o := 3) (.there (.here _ _)) rfl
  have q4 := H.cell (b := X) (o := 4) (.there (.here _ _)) rfl
  have hH := Lib.hid H
  clear H
  go_wp2_with fail
  refine (c5.out _).mono ?_
  rintro e w7 ⟨v7, rfl, o7, k7⟩
  obtain ⟨a7, p7, rfl, -⟩ := o7.slice
  have H := hH.out.ofOwn k7 o7
  clear hH q0 q1 q2 q3 q4 k7 o7
  have q0 := H.cell (b := X) (o := 0) (.there (.there (.here _ _))) rfl
  have q1 := H.cell (b := X) (o := 1) (.there (.there (.here _ _))) rfl
  have q2 := H.cell (b := X) (o := 2) (.there (.there (.here _ _))) rfl
  have q3 := H.cell (b := X) (o := 3) (.there (.there (.here _ _))) rfl
  have q4 := H.cell (b := X) (o := 4) (.there (.there (.here _ _))) rfl
  have hH := Lib.hid H
  clear H
  go_wp2_with fail
  refine (c6.out _ _ hH.out).mono ?_
  rintro e w8 ⟨v8, rfl, H⟩
  obtain ⟨a8, p8, rfl, -⟩ := (H.ownOf (.here _ _)).slice
  clear hH q0 q1 q2 q3 q4
  have y0 := H.cell (b := Y) (o := 0) (.there (.there (.there (.there (.there (.there (.here _ _))))))) rfl
  have y1 := H.cell (b := Y) (o := 1) (.there (.there (.there (.there (.there (.there (.here _ _))))))) rfl
  have z0 := H.cell (b := Z) (o := 0) (.there (.there (.there (.there (.there (.here _ _)))))) rfl
  have z1 := H.cell (b := Z) (o := 1) (.there (.there (.there (.there (.there (.here _ _)))))) rfl
  have hH := Lib.hid H
  clear H
  go_wp2_with fail
  refine (hs1.out _ a5 a6 p5 p6 (OwnK.rdM3 (hH.out.ownOf (.there (.there (.there (.there (.here _ _)))))) hn1'.out) (OwnK.rdM3 (hH.out.ownOf (.there (.there (.here _ _)))) hn1'.out)).mono ?_
  rintro e w9 ⟨rfl, k9⟩
  have hH9 := Lib.hid (hH.out.quiet k9)
  clear hH k9 y0 y1 z0 z1
  go_wp2_with fail
  refine (hs2.out _ a7 a8 p7 p8 (OwnK.rdM3 (hH9.out.ownOf (.there (.here _ _))) hn2'.out) (OwnK.rdM3 (hH9.out.ownOf (.here _ _)) hn2'.out)).mono ?_
  rintro e w10 ⟨rfl, k10⟩
  have hH10 := Lib.hid (hH9.out.quiet k10)
  clear hH9 k10
  go_wp2_with fail
  go_ret
  exact ⟨rfl, hH10.out.kp (.there (.there (.there (.there (.there (.there (.there (.here _ _))))))))⟩

section
variable {H : Type} {enc : TypeId × Value → H} {W : World} {base : Nat} {held : Bool}
theorem cellsA1 : Try.prog.cellsOf 3 = 1 := by kernel_rfl
theorem cellsA5 : Try.prog.cellsOf 45 = 5 := by kernel_rfl
set_option maxRecDepth 100000 in
theorem open_ask {r : Reach} {b0 : Nat} {v : Value} {d : DataW H} {p : List MemPlace} (hv : Value.okWide Try.prog W r b0 45 v) (h : DataW.Trod enc Try.prog W base (fun _ => true) held 45 v d p) :
    ∃ (a b c e f : Int), v = .agg #[.int .i64 a, .int .i64 b, .int .i64 c, .int .i64 e, .int .i64 f] ∧ (-9223372036854775808 ≤ b ∧ b ≤ 9223372036854775807) := by
  obtain ⟨cs, rfl, hsz⟩ := okWide_struct Try.underlying45 hv
  rw [cellsA5] at hsz
  obtain ⟨fuel, hf⟩ := h
  obtain ⟨cl⟩ := cs
  have hl : cl.length = 5 := hsz
  have hf : DataW.trod enc Try.prog W base (fun _ => true) held fuel 45 cl = some (d, p) := hf
  match cl, hl with
  | [v0, v1, v2, v3, v4], _ =>
  obtain ⟨ys, n, -, -, -, hyl, hg⟩ := DataW.trod_struct Try.underlying45 hf
  have h0 := hg 0 _ rfl
  have h1 := hg 1 _ rfl
  have h2 := hg 2 _ rfl
  have h3 := hg 3 _ rfl
  have h4 := hg 4 _ rfl
  have hyl : ys.length = 5 := hyl
  rw [List.getElem?_eq_getElem (by omega)] at h0 h1 h2 h3 h4
  simp only [List.getElem_toArray, List.getElem_cons_zero, List.getElem_cons_succ, cellsA1, List.drop, List.take] at h0 h1 h2 h3 h4
  obtain ⟨x0, e0, -, k0⟩ := DataW.trod_int Try.underlying3 h0
  obtain ⟨x1, e1, -, k1⟩ := DataW.trod_int Try.underlying3 h1
  obtain ⟨x2, e2, -, k2⟩ := DataW.trod_int Try.underlying3 h2
  obtain ⟨x3, e3, -, k3⟩ := DataW.trod_int Try.underlying3 h3
  obtain ⟨x4, e4, -, k4⟩ := DataW.trod_int Try.underlying3 h4
  cases e0; cases e1; cases e2; cases e3; cases e4
  refine ⟨x0, x1, x2, x3, x4, rfl, ?_⟩
  simp [Lit.wf, IntKind.min, IntKind.max, IntKind.signed, IntKind.bits] at k1
  exact ⟨by have := k1.1; omega, by have := k1.2; omega⟩
end
theorem walkMoves (mode p s place round : Int) (w : World) (w0 : -9223372036854775808 ≤ p ∧ p ≤ 9223372036854775807) :
    Calls Try.prog 5 #[.agg #[.int .i64 mode, .int .i64 p, .int .i64 s, .int .i64 place, .int .i64 round]] w fun e w' => e = .returned (.bool true) ∧ Below w.heap.size w w' :=
  (swapMoves_c mode p s place round w w0.1 w0.2).mono fun _ _ h => ⟨h.1, h.2.self_below⟩
end Go.Proofs.Ytamhlmfcnnomgaa
