/- The walk of sum. -/
import Derived.Test.YtnkahibddhchlaaRfC
import Derived.Test.YtnkahibddhchlaaCountsW
namespace Go.Proofs.Ytnkahibddhchlaa
open Go.RowKit Go.Shelf
set_option linter.unusedVariables false

theorem fieldsTf : Try.prog.underlying 50 = some (.struct (Try.prog.fieldsOf 50)) := by kernel_rfl
theorem eq_tf (d : Nat) (a b c e f g : Int) (w : World) : (Op.equalIn (d + 2) 50 (.agg #[.int .i64 a, .int .i64 b, .int .i64 c, .int .i64 e, .int .i64 f, .int .i64 g]) (.agg #[.int .i64 a, .int .i64 b, .int .i64 c, .int .i64 e, .int .i64 f, .int .i64 g])).run Try.prog w = .ok true w := by
  rw [run_equalIn_agg _ _ _ _ _ fieldsTf (by kernel_rfl)]
  have hf : (Try.prog.fieldsOf 50).toList.map (fun f => (f.name == "_", f.type, f.offset)) = [(false, 3, 0), (false, 3, 1), (false, 3, 2), (false, 3, 3), (false, 3, 4), (false, 3, 5)] := by kernel_rfl
  generalize (Try.prog.fieldsOf 50).toList = fs at hf
  rcases fs with _ | ⟨f0, _ | ⟨f1, _ | ⟨f2, _ | ⟨f3, _ | ⟨f4, _ | ⟨f5, _ | ⟨f6, r⟩⟩⟩⟩⟩⟩⟩ <;> simp only [List.map_cons, List.map_nil, List.cons.injEq, Prod.mk.injEq, and_true, and_false, reduceCtorEq] at hf
  obtain ⟨⟨n0, t0, o0⟩, ⟨n1, t1, o1⟩, ⟨n2, t2, o2⟩, ⟨n3, t3, o3⟩, ⟨n4, t4, o4⟩, n5, t5, o5⟩ := hf
  simp at n0 n1 n2 n3 n4 n5
  simp [Op.eqFields, n0, t0, o0, n1, t1, o1, n2, t2, o2, n3, t3, o3, n4, t4, o4, n5, t5, o5, go_sem]
theorem neq_tf (a b c e f g : Int) (w : World) : (binOp .neq 50 (.agg #[.int .i64 a, .int .i64 b, .int .i64 c, .int .i64 e, .int .i64 f, .int .i64 g]) (.agg #[.int .i64 a, .int .i64 b, .int .i64 c, .int .i64 e, .int .i64 f, .int .i64 g])).run Try.prog w = .ok (.bool false) w := by
  rw [run_neq_struct, eq_tf 9998 a b c e f g w]
  rfl
theorem guard_tf' (op : BinOp) (x y : Operand) (xs ys : Array Value) (w : World) : (eqGuard op 50 x y (.agg xs) (.agg ys)).run Try.prog w = .ok () w := run_eqGuard_agg w op _ x y xs ys (by kernel_rfl)

section
variable {p y : Nat} {s : NSt} {L : List Pc} {w : World}
theorem RF.cells (H : RF y s L w) : (∃ a c, w.cell? ⟨y, 2, none⟩ = some (.slice a (allF s.n s.F) c)) ∧ w.cell? ⟨y, 3, none⟩ = some (.int .i64 s.t.sent) ∧ w.cell? ⟨y, 4, none⟩ = some (.int .i64 s.t.doubled) ∧ w.cell? ⟨y, 5, none⟩ = some (.int .i64 s.t.delivered) ∧
    w.cell? ⟨y, 6, none⟩ = some (.int .i64 s.t.dropped) ∧ w.cell? ⟨y, 7, none⟩ = some (.int .i64 s.t.lost) ∧ w.cell? ⟨y, 8, none⟩ = some (.int .i64 s.t.flipped) := by
  obtain ⟨r, HR, hn, hroom, ht, hF, hk⟩ := H
  obtain ⟨a0, c0, R⟩ := HR.rd
  have hlen := RF.len hF hk
  have hsl := R.sl
  rw [hlen] at hsl
  obtain ⟨sl, gs, HS, hgs⟩ := HR
  rw [← ht]
  exact ⟨⟨_, _, hsl⟩, HS.cell (b := y) (o := 3) (.here _ _) rfl, HS.cell (b := y) (o := 4) (.here _ _) rfl, HS.cell (b := y) (o := 5) (.here _ _) rfl, HS.cell (b := y) (o := 6) (.here _ _) rfl, HS.cell (b := y) (o := 7) (.here _ _) rfl, HS.cell (b := y) (o := 8) (.here _ _) rfl⟩
theorem Bth.cells {s2 : NSt} (H : Bth p s y s2 L w) : (∃ a c, w.cell? ⟨y, 2, none⟩ = some (.slice a (allF s2.n s2.F) c)) ∧ w.cell? ⟨y, 3, none⟩ = some (.int .i64 s2.t.sent) ∧ w.cell? ⟨y, 4, none⟩ = some (.int .i64 s2.t.doubled) ∧ w.cell? ⟨y, 5, none⟩ = some (.int .i64 s2.t.delivered) ∧
    w.cell? ⟨y, 6, none⟩ = some (.int .i64 s2.t.dropped) ∧ w.cell? ⟨y, 7, none⟩ = some (.int .i64 s2.t.lost) ∧ w.cell? ⟨y, 8, none⟩ = some (.int .i64 s2.t.flipped) := by
  obtain ⟨N, hN, H⟩ := H.rf
  exact H.cells
theorem RfIs.cells {N : List Pc} (h : RfIs y s N) : ∃ a c, ∀ V L, SL V (N ++ L) → V.cell? ⟨y, 2, none⟩ = some (.slice a (allF s.n s.F) c) ∧ V.cell? ⟨y, 3, none⟩ = some (.int .i64 s.t.sent) ∧ V.cell? ⟨y, 4, none⟩ = some (.int .i64 s.t.doubled) ∧ V.cell? ⟨y, 5, none⟩ = some (.int .i64 s.t.delivered) ∧
    V.cell? ⟨y, 6, none⟩ = some (.int .i64 s.t.dropped) ∧ V.cell? ⟨y, 7, none⟩ = some (.int .i64 s.t.lost) ∧ V.cell? ⟨y, 8, none⟩ = some (.int .i64 s.t.flipped) := by
  obtain ⟨r, sl, gs, rfl, e, hn, hroom, ht, hF, hk⟩ := h
  have hlen := RF.len hF hk
  have hgl : gs.length = r.l.length := by rw [← e]; simp
  have key : (∃ a c, sl = .slice a gs.length c) ∨ ∀ V L, ¬ SL V (rnP y r.n r.room sl r.t gs ++ L) := by
    by_cases h : ∃ V L, SL V (rnP y r.n r.room sl r.t gs ++ L)
    · obtain ⟨V, L, h⟩ := h
      obtain ⟨a, c, h, -⟩ := rg_cells h (.there (.here _ _))
      exact .inl ⟨a, c, h⟩
    · exact .inr fun V L h' => h ⟨V, L, h'⟩
  rcases key with ⟨a, c, rfl⟩ | hno
  · refine ⟨a, c, fun V L HS => ?_⟩
    rw [← ht, ← hlen, ← hgl]
    exact ⟨HS.cell (b := y) (o := 2) (.here _ _) rfl, HS.cell (b := y) (o := 3) (.here _ _) rfl, HS.cell (b := y) (o := 4) (.here _ _) rfl, HS.cell (b := y) (o := 5) (.here _ _) rfl, HS.cell (b := y) (o := 6) (.here _ _) rfl, HS.cell (b := y) (o := 7) (.here _ _) rfl, HS.cell (b := y) (o := 8) (.here _ _) rfl⟩
  · exact ⟨none, 0, fun V L h => absurd h (hno V L)⟩
theorem wayK {w : World} {L L' : List Pc} {a : Option Addr} {c M : Nat} {K : List Ky} (H : SL w L) (hp : Pull L (.own 42 2 (.slice a M c) M (kyC K)) L') (hM : K.length = M) : ∀ j (hj : j < K.length), ∃ g, a = some ⟨g, 0, none⟩ ∧ w.cell? ⟨g, j * 2, none⟩ = some (.int .i64 (K[j]'hj).1) ∧ w.cell? ⟨g, j * 2 + 1, none⟩ = some (.int .i64 (K[j]'hj).2) := by
  intro j hj
  have hown : OwnK w 0 42 2 (.slice a M c) M (kyC K) := H.ownOf hp
  rcases hown.form with ⟨_, e, _⟩ | ⟨g, cap', e, _, _, _, _, _, hc, _⟩
  · omega
  · cases e
    refine ⟨g, rfl, ?_, ?_⟩
    · rw [hc (j * 2) (by omega), (kyC_at K hj).1]
    · rw [hc (j * 2 + 1) (by omega), (kyC_at K hj).2]

set_option maxRecDepth 100000 in
set_option maxHeartbeats 8000000 in
theorem sum_c (H : Bth p s y s L w) : Calls Try.prog 24 #[ptrV p, ptrV y] w fun e w' => e = .returned (.bool true) ∧ Bth p s y s L w' := by
  have hA := H.all
  have hn := H.n64
  have hw1 := Lib.hid (H.lift1 (α := Option Addr × Nat) (P := fun x e => e = .returned (.slice x.1 (heldK s.n s.F).length x.2)) (S := fun _ => s) (X := fun x => [.own 42 2 (.slice x.1 (heldK s.n s.F).length x.2) (heldK s.n s.F).length (kyC (heldK s.n s.F))]) fun L' h => (ways_c h).mono fun e w' ⟨a, c, h1, h2⟩ => ⟨(a, c), h1, h2⟩)
  have hw2 := Lib.hid (fun V L (H : Bth p s y s L V) => H.lift2 (α := Option Addr × Nat) (P := fun x e => e = .returned (.slice x.1 (heldK s.n s.F).length x.2)) (S := fun _ => s) (X := fun x => [.own 42 2 (.slice x.1 (heldK s.n s.F).length x.2) (heldK s.n s.F).length (kyC (heldK s.n s.F))]) fun L' h => (rf_ways h hA hn).mono fun e w' ⟨a, c, h1, h2⟩ => ⟨(a, c), h1, h2⟩)
  have hal := Lib.hid (fun V L (H : NAt p s L V) => all_c H)
  have htr : Hid (∀ V L, NAt p s L V → Calls Try.prog 20 #[ptrV p] V fun e w' => e = .returned (.agg #[.int .i64 s.t.sent, .int .i64 s.t.doubled, .int .i64 s.t.delivered, .int .i64 s.t.dropped, .int .i64 s.t.lost, .int .i64 s.t.flipped]) ∧ NAt p s L w') := Lib.hid (fun V L h => traffic_c h)
  have hcs := Lib.hid (fun N (h : RfIs y s N) => h.cells)
  have hKl := heldK_len s.n s.F
  have hK4 : s.n * s.n ≤ 64 * 64 := Nat.mul_le_mul hn hn
  obtain ⟨K, hK⟩ : ∃ K, heldK s.n s.F = K := ⟨_, rfl⟩
  rw [hK] at hw1 hw2 hKl
  obtain ⟨M, hM⟩ : ∃ M, K.length = M := ⟨_, rfl⟩
  have hM' := Lib.hid hM
  rw [hM] at hw1 hw2 hKl
  have hMl : M ≤ 4096 := by omega
  obtain ⟨al, hal2⟩ : ∃ al, allF s.n s.F = al := ⟨_, rfl⟩
  rw [hal2] at hal hcs hA
  clear H hn hK hM hKl hK4 hal2
  unfold ptrV at *
  go_enter Try.func24, Try.ntmps24
  go_wp2_with fail
  refine hw1.out.mono ?_
  rintro e w2 ⟨⟨a1, c1⟩, rfl, H2⟩
  have hw3 := Lib.hid (hw2.out _ _ H2)
  clear hw1 hw2 H2
  dsimp only at *
  go_wp2_with fail
  refine hw3.out.mono ?_
  rintro e w3 ⟨⟨a2, c2⟩, rfl, H3⟩
  have hH := Lib.hid H3
  clear hw3 H3
  dsimp only at *
  obtain ⟨N, hN, H4⟩ := hH.out
  obtain ⟨a3, c3, hcN⟩ := hcs.out N hN
  have hcN := Lib.hid hcN
  have hN' := Lib.hid hN
  clear hH hcs hN
  have hH := Lib.hid H4
  clear H4
  have hfin : Hid (∀ V, NAt p s (N ++ ([.own 42 2 (.slice a2 M c2) M (kyC K)] ++ ([.own 42 2 (.slice a1 M c1) M (kyC K)] ++ L))) V → Bth p s y s L V) := Lib.hid fun V h => Bth.re ⟨N, hN'.out, h⟩ (.drop (.drop (.same _)))
  have hwk1 := Lib.hid (fun V (h : NAt p s (N ++ ([.own 42 2 (.slice a2 M c2) M (kyC K)] ++ ([.own 42 2 (.slice a1 M c1) M (kyC K)] ++ L))) V) => wayK (h.tail.re (re_right N _)) (.there (.here _ _)) hM'.out)
  have hwk2 := Lib.hid (fun V (h : NAt p s (N ++ ([.own 42 2 (.slice a2 M c2) M (kyC K)] ++ ([.own 42 2 (.slice a1 M c1) M (kyC K)] ++ L))) V) => wayK (h.tail.re (re_right N _)) (.here _ _) hM'.out)
  generalize [Pc.own 42 2 (.slice a2 M c2) M (kyC K)] ++ ([.own 42 2 (.slice a1 M c1) M (kyC K)] ++ L) = X at *
  generalize s.t.sent = n0 at *
  generalize s.t.doubled = n1 at *
  generalize s.t.delivered = n2 at *
  generalize s.t.dropped = n3 at *
  generalize s.t.lost = n4 at *
  generalize s.t.flipped = n5 at *
  have hMM : ((M : Int) != (M : Int)) = false := by simp
  have hall : ((al : Int) != (al : Int)) = false := by simp
  go_upto_region 3 with (fail)
  refine wp_region_held_drew (S := (fun W => W.cell? ⟨y, 2, none⟩ = some (.slice a3 al c3) ∧ W.cell? ⟨y, 3, none⟩ = some (.int .i64 n0) ∧ W.cell? ⟨y, 4, none⟩ = some (.int .i64 n1) ∧ W.cell? ⟨y, 5, none⟩ = some (.int .i64 n2) ∧ W.cell? ⟨y, 6, none⟩ = some (.int .i64 n3) ∧ W.cell? ⟨y, 7, none⟩ = some (.int .i64 n4) ∧ W.cell? ⟨y, 8, none⟩ = some (.int .i64 n5) ∧ (binOp .neq 50 (.agg #[.int .i64 n0, .int .i64 n1, .int .i64 n2, .int .i64 n3, .int .i64 n4, .int .i64 n5]) (.agg #[.int .i64 n0, .int .i64 n1, .int .i64 n2, .int .i64 n3, .int .i64 n4, .int .i64 n5])).run Try.prog W = .ok (.bool false) W)) (by kernel_rfl) ?_ (fun hHeld => ?_)
  · have H := hH.out.drew
    exact ⟨(hcN.out _ _ H.tail).1, (hcN.out _ _ H.tail).2.1, (hcN.out _ _ H.tail).2.2.1, (hcN.out _ _ H.tail).2.2.2.1, (hcN.out _ _ H.tail).2.2.2.2.1, (hcN.out _ _ H.tail).2.2.2.2.2.1, (hcN.out _ _ H.tail).2.2.2.2.2.2, neq_tf _ _ _ _ _ _ _⟩
  have H := hH.out.drew
  generalize World.drew w3 = w4 at *
  clear hH
  refine takeL (i := 0) rfl (by kernel_rfl) (by kernel_rfl) (by kernel_rfl) (fun _ _ _ _ h => h) hHeld ?_ (Or.inl ⟨by rfl, ?_⟩) ?_
  rotate_left
  · intro W hW
    (try dsimp only at hW)
    first | (go_simp; done) | (go_simp; with_reducible rfl)
  ((try simp only [Act.put]); (try simp only [List.setIfInBounds_toArray]); (try simp only [List.set_cons_succ]); (try simp only [List.set_cons_zero]))
  refine takeL (i := 1) rfl (by kernel_rfl) (by kernel_rfl) (by kernel_rfl) (fun _ _ _ _ h => h) hHeld ?_ (Or.inl ⟨by rfl, ?_⟩) ?_
  rotate_left
  · intro W hW
    (try dsimp only at hW)
    first | (go_simp; done) | (go_simp; with_reducible rfl)
  ((try simp only [Act.put]); (try simp only [List.setIfInBounds_toArray]); (try simp only [List.set_cons_succ]); (try simp only [List.set_cons_zero]))
  refine takeL (i := 2) rfl (by kernel_rfl) (by kernel_rfl) (by kernel_rfl) (fun _ _ _ _ h => h) hHeld ?_ (Or.inl ⟨by rfl, ?_⟩) ?_
  rotate_left
  · intro W hW
    (try dsimp only at hW)
    first | (go_simp; done) | (go_simp; with_reducible rfl)
  ((try simp only [Act.put]); (try simp only [List.setIfInBounds_toArray]); (try simp only [List.set_cons_succ]); (try simp only [List.set_cons_zero]))
  refine takeL (i := 3) rfl (by kernel_rfl) (by kernel_rfl) (by kernel_rfl) (fun _ _ _ _ h => h) hHeld ?_ (Or.inl ⟨by rfl, ?_⟩) ?_
  rotate_left
  · intro W hW
    (try dsimp only at hW)
    first | (go_simp; done) | (go_simp; with_reducible rfl)
  ((try simp only [Act.put]); (try simp only [List.setIfInBounds_toArray]); (try simp only [List.set_cons_succ]); (try simp only [List.set_cons_zero]))
  refine takeL (i := 4) rfl (by kernel_rfl) (by kernel_rfl) (by kernel_rfl) (fun _ _ _ _ h => h) hHeld ?_ (Or.inl ⟨by rfl, ?_⟩) ?_
  rotate_left
  · intro W hW
    (try dsimp only at hW)
    first | (go_simp; done) | (go_simp; with_reducible rfl)
  ((try simp only [Act.put]); (try simp only [List.setIfInBounds_toArray]); (try simp only [List.set_cons_succ]); (try simp only [List.set_cons_zero]))
  refine takeL (i := 5) rfl (by kernel_rfl) (by kernel_rfl) (by kernel_rfl) (fun _ _ _ _ h => h) hHeld ?_ (Or.inl ⟨by rfl, ?_⟩) ?_
  rotate_left
  · intro W hW
    (try dsimp only at hW)
    first | (go_simp; done) | (go_simp; with_reducible rfl)
  ((try simp only [Act.put]); (try simp only [List.setIfInBounds_toArray]); (try simp only [List.set_cons_succ]); (try simp only [List.set_cons_zero]))
  refine takeL (i := 6) rfl (by kernel_rfl) (by kernel_rfl) (by kernel_rfl) (fun _ _ _ _ h => h) hHeld ?_ (Or.inl ⟨by rfl, ?_⟩) ?_
  rotate_left
  · intro W hW
    (try dsimp only at hW)
    first | (go_simp; done) | (go_simp; with_reducible rfl)
  ((try simp only [Act.put]); (try simp only [List.setIfInBounds_toArray]); (try simp only [List.set_cons_succ]); (try simp only [List.set_cons_zero]))
  refine takeL (i := 8) rfl (by kernel_rfl) (by kernel_rfl) (by kernel_rfl) (fun _ _ _ _ h => h) hHeld ?_ (Or.inl ⟨by rfl, ?_⟩) ?_
  rotate_left
  · intro W hW
    (try dsimp only at hW)
    first | (go_simp; done) | (go_simp; with_reducible rfl)
  ((try simp only [Act.put]); (try simp only [List.setIfInBounds_toArray]); (try simp only [List.set_cons_succ]); (try simp only [List.set_cons_zero]))
  refine takeL (i := 9) rfl (by kernel_rfl) (by kernel_rfl) (by kernel_rfl) (fun _ _ _ _ h => h) hHeld ?_ (Or.inl ⟨by rfl, ?_⟩) ?_
  rotate_left
  · intro W hW
    (try dsimp only at hW)
    first | (go_simp; done) | (go_simp; with_reducible rfl)
  ((try simp only [Act.put]); (try simp only [List.setIfInBounds_toArray]); (try simp only [List.set_cons_succ]); (try simp only [List.set_cons_zero]))
  refine takeL (i := 10) rfl (by kernel_rfl) (by kernel_rfl) (by kernel_rfl) (fun _ _ _ _ h => h) hHeld ?_ (Or.inl ⟨by rfl, ?_⟩) ?_
  rotate_left
  · intro W hW
    (try dsimp only at hW)
    first | (go_simp; done) | (go_simp; with_reducible rfl)
  ((try simp only [Act.put]); (try simp only [List.setIfInBounds_toArray]); (try simp only [List.set_cons_succ]); (try simp only [List.set_cons_zero]))
  refine takeL (i := 11) rfl (by kernel_rfl) (by kernel_rfl) (by kernel_rfl) (fun _ _ _ _ h => h) hHeld ?_ (Or.inl ⟨by rfl, ?_⟩) ?_
  rotate_left
  · intro W hW
    (try dsimp only at hW)
    first | (go_simp; done) | (go_simp; with_reducible rfl)
  ((try simp only [Act.put]); (try simp only [List.setIfInBounds_toArray]); (try simp only [List.set_cons_succ]); (try simp only [List.set_cons_zero]))
  refine takeL (i := 12) rfl (by kernel_rfl) (by kernel_rfl) (by kernel_rfl) (fun _ _ _ _ h => h) hHeld ?_ (Or.inl ⟨by rfl, ?_⟩) ?_
  rotate_left
  · intro W hW
    (try dsimp only at hW)
    first | (go_simp; done) | (go_simp; with_reducible rfl)
  ((try simp only [Act.put]); (try simp only [List.setIfInBounds_toArray]); (try simp only [List.set_cons_succ]); (try simp only [List.set_cons_zero]))
  refine callL (i := 7) rfl (by kernel_rfl) (fun K hK => ?_)
  rw [if_pos (by rfl)]
  go_simp
  refine (hal.out _ _ H).mono ?_
  rintro r w5 ⟨rfl, H5⟩
  have H' := H5
  clear H hHeld
  clear H5
  have H := H'
  clear H'
  refine hK.out _ _ ?_ (fun hHeld => ?_)
  · exact ⟨(hcN.out _ _ H.tail).1, (hcN.out _ _ H.tail).2.1, (hcN.out _ _ H.tail).2.2.1, (hcN.out _ _ H.tail).2.2.2.1, (hcN.out _ _ H.tail).2.2.2.2.1, (hcN.out _ _ H.tail).2.2.2.2.2.1, (hcN.out _ _ H.tail).2.2.2.2.2.2, neq_tf _ _ _ _ _ _ _⟩
  clear hK K
  ((try simp only [Act.put]); (try simp only [List.setIfInBounds_toArray]); (try simp only [List.set_cons_succ]); (try simp only [List.set_cons_zero]))
  refine takeL (i := 13) rfl (by kernel_rfl) (by kernel_rfl) (by kernel_rfl) (fun _ _ _ _ h => h) hHeld ?_ (Or.inl ⟨by rfl, ?_⟩) ?_
  rotate_left
  · intro W hW
    (try dsimp only at hW)
    first | (go_simp; done) | (go_simp; with_reducible rfl)
  ((try simp only [Act.put]); (try simp only [List.setIfInBounds_toArray]); (try simp only [List.set_cons_succ]); (try simp only [List.set_cons_zero]))
  refine takeL (i := 14) rfl (by kernel_rfl) (by kernel_rfl) (by kernel_rfl) (fun _ _ _ _ h => h) hHeld ?_ (Or.inl ⟨by rfl, ?_⟩) ?_
  rotate_left
  · intro W hW
    (try dsimp only at hW)
    first | (go_simp; done) | (go_simp; with_reducible rfl)
  ((try simp only [Act.put]); (try simp only [List.setIfInBounds_toArray]); (try simp only [List.set_cons_succ]); (try simp only [List.set_cons_zero]))
  refine takeL (i := 15) rfl (by kernel_rfl) (by kernel_rfl) (by kernel_rfl) (fun _ _ _ _ h => h) hHeld ?_ (Or.inl ⟨by rfl, ?_⟩) ?_
  rotate_left
  · intro W hW
    (try dsimp only at hW)
    first | (go_simp; done) | (go_simp; with_reducible rfl)
  ((try simp only [Act.put]); (try simp only [List.setIfInBounds_toArray]); (try simp only [List.set_cons_succ]); (try simp only [List.set_cons_zero]))
  refine takeL (i := 16) rfl (by kernel_rfl) (by kernel_rfl) (by kernel_rfl) (fun _ _ _ _ h => h) hHeld ?_ (Or.inl ⟨by rfl, ?_⟩) ?_
  rotate_left
  · intro W hW
    (try dsimp only at hW)
    first | (go_simp; done) | (go_simp; with_reducible rfl)
  ((try simp only [Act.put]); (try simp only [List.setIfInBounds_toArray]); (try simp only [List.set_cons_succ]); (try simp only [List.set_cons_zero]))
  refine takeL (i := 18) rfl (by kernel_rfl) (by kernel_rfl) (by kernel_rfl) (fun _ _ _ _ h => h) hHeld ?_ (Or.inl ⟨by rfl, ?_⟩) ?_
  rotate_left
  · intro W hW
    (try dsimp only at hW)
    first | (go_simp; done) | (go_simp; with_reducible rfl)
  ((try simp only [Act.put]); (try simp only [List.setIfInBounds_toArray]); (try simp only [List.set_cons_succ]); (try simp only [List.set_cons_zero]))
  refine takeL (i := 19) rfl (by kernel_rfl) (by kernel_rfl) (by kernel_rfl) (fun _ _ _ _ h => h) hHeld ?_ (Or.inl ⟨by rfl, ?_⟩) ?_
  rotate_left
  · intro W hW
    (try dsimp only at hW)
    first | (go_simp; done) | (go_simp; with_reducible rfl)
  ((try simp only [Act.put]); (try simp only [List.setIfInBounds_toArray]); (try simp only [List.set_cons_succ]); (try simp only [List.set_cons_zero]))
  refine takeL (i := 20) rfl (by kernel_rfl) (by kernel_rfl) (by kernel_rfl) (fun _ _ _ _ h => h) hHeld ?_ (Or.inl ⟨by rfl, ?_⟩) ?_
  rotate_left
  · intro W hW
    (try dsimp only at hW)
    first | (go_simp; done) | (go_simp; with_reducible rfl)
  ((try simp only [Act.put]); (try simp only [List.setIfInBounds_toArray]); (try simp only [List.set_cons_succ]); (try simp only [List.set_cons_zero]))
  refine takeL (i := 21) rfl (by kernel_rfl) (by kernel_rfl) (by kernel_rfl) (fun _ _ _ _ h => h) hHeld ?_ (Or.inl ⟨by rfl, ?_⟩) ?_
  rotate_left
  · intro W hW
    (try dsimp only at hW)
    first | (go_simp; done) | (go_simp; with_reducible rfl)
  ((try simp only [Act.put]); (try simp only [List.setIfInBounds_toArray]); (try simp only [List.set_cons_succ]); (try simp only [List.set_cons_zero]))
  refine callL (i := 17) rfl (by kernel_rfl) (fun K hK => ?_)
  rw [if_pos (by rfl)]
  go_simp
  refine (htr.out _ _ H).mono ?_
  rintro r w6 ⟨rfl, H6⟩
  have H' := H6
  clear H hHeld
  clear H6
  have H := H'
  clear H'
  refine hK.out _ _ ?_ (fun hHeld => ?_)
  · exact ⟨(hcN.out _ _ H.tail).1, (hcN.out _ _ H.tail).2.1, (hcN.out _ _ H.tail).2.2.1, (hcN.out _ _ H.tail).2.2.2.1, (hcN.out _ _ H.tail).2.2.2.2.1, (hcN.out _ _ H.tail).2.2.2.2.2.1, (hcN.out _ _ H.tail).2.2.2.2.2.2, neq_tf _ _ _ _ _ _ _⟩
  clear hK K
  ((try simp only [Act.put]); (try simp only [List.setIfInBounds_toArray]); (try simp only [List.set_cons_succ]); (try simp only [List.set_cons_zero]))
  refine takeL (i := 22) rfl (by kernel_rfl) (by kernel_rfl) (by kernel_rfl) (fun _ _ _ _ h => h) hHeld ?_ (Or.inl ⟨by rfl, ?_⟩) ?_
  rotate_left
  · intro W hW
    (try dsimp only at hW)
    first | (go_simp; done) | (go_simp; with_reducible rfl)
  ((try simp only [Act.put]); (try simp only [List.setIfInBounds_toArray]); (try simp only [List.set_cons_succ]); (try simp only [List.set_cons_zero]))
  refine takeL (i := 23) rfl (by kernel_rfl) (by kernel_rfl) (by kernel_rfl) (fun _ _ _ _ h => h) hHeld ?_ (Or.inl ⟨by rfl, ?_⟩) ?_
  rotate_left
  · intro W hW
    (try dsimp only at hW)
    first | (go_simp; done) | (go_simp; with_reducible rfl)
  ((try simp only [Act.put]); (try simp only [List.setIfInBounds_toArray]); (try simp only [List.set_cons_succ]); (try simp only [List.set_cons_zero]))
  refine wpAnyH_done (by kernel_rfl) ?_ _
  clear hHeld hal htr hcN
  have hH := Lib.hid H
  clear H
  have hnp := neq_pair
  have hgp := guard_pair
  go_wp2_with fail
  go_loopw [38] (fun i V => ∃ j : Nat, j ≤ M ∧ i = .int .i64 j ∧ Hid (NAt p s (N ++ X) V)) (fun i _ => M - (intOf i).toNat)
  case atStart => exact ⟨0, by omega, rfl, hH⟩
  case round =>
    clear hH
    obtain ⟨j, hj, rfl, hN⟩ := hrel
    by_cases hjM : j < M
    · have hjK : j < K.length := by rw [hM'.out]; exact hjM
      obtain ⟨g1, rfl, e1, e2⟩ := hwk1.out _ hN.out j hjK
      obtain ⟨g2, rfl, e3, e4⟩ := hwk2.out _ hN.out j hjK
      have hN2 := Lib.hid (fun x => hN.out.drewN x)
      clear hN
      generalize (K[j]'hjK) = k at *
      obtain ⟨k1, k2⟩ := k
      dsimp only at *
      clear hjK
      go_wp2_with fail
      go_quiet (fail)
      have hN3 := Lib.hid (hN2.out nq)
      clear hN2 e1 e2 e3 e4
      go_wp2_with fail
      go_roundw
      case rel => exact ⟨j + 1, by omega, by go_num, hN3⟩
      case measure => (simp [intOf]; try omega)
    · obtain rfl : j = M := by omega
      have hf2 := Lib.hid (hfin.out _ hN.out)
      clear hN
      go_wp2_with fail
      go_ret
      exact ⟨rfl, hf2.out⟩
end
end Go.Proofs.Ytnkahibddhchlaa
