/- Calm; told, Left, Rung. -/
import Derived.Test.YtcjmkpphohkofaaCalm20
namespace Go.Proofs.Ytcjmkpphohkofaa
open Go.RowKit
set_option linter.unusedVariables false

section
variable {R : Int} {p : Nat} {s : Ck} {L : List Pc} {w : World}
theorem calm_yes (H : CAt R p s L w) {k : Int} (hy : hasK s.l k = true) :
    Calls Try.prog 15 #[ptrV p, .int .u64 k] w fun e w' => e = .returned (.int .i64 0) ∧ CAt R p { s with l := calmK s.l k s.a } L w' := by
  have ho := Lib.hid (on_calm (H.alloc [ptrV p] 25) k hy (ptrV w.heap.size) (fun V i h1 h2 => calmf_c h1 h2))
  clear H
  unfold ptrV at *
  go_enter Try.func15, Try.ntmps15
  go_wp2_with fail
  refine ho.out.mono ?_
  rintro e w2 ⟨rfl, H2⟩
  have hfin := Lib.hid (H2.re (.drop (.same _)))
  clear ho H2
  go_wp2_with fail
  go_ret
  exact ⟨rfl, hfin.out⟩
theorem calm_no (H : CAt R p s L w) {k : Int} (hn : hasK s.l k = false) :
    Calls Try.prog 15 #[ptrV p, .int .u64 k] w fun e w' => e = .returned (.int .i64 200) ∧ CAt R p s L w' := by
  have ho := Lib.hid (fun f => on_no (H.alloc [ptrV p] 25) k hn f)
  clear H
  unfold ptrV at *
  go_enter Try.func15, Try.ntmps15
  go_wp2_with fail
  refine (ho.out _).mono ?_
  rintro e w2 ⟨rfl, H2⟩
  have hfin := Lib.hid (H2.re (.drop (.same _)))
  clear ho H2
  go_wp2_with fail
  go_ret
  exact ⟨rfl, hfin.out⟩

theorem toldf_c {cb ab : Nat} {k : Int} {i : Nat} (hh : hit s.l k i = true) (H : CAt R p s (.blk ab (Al.c ⟨0, 0, 0, 0⟩) 59 :: .blk cb [ptrV p] 25 :: L) w) :
    Calls Try.prog 50 #[.int .i64 (i : Nat), ptrV cb, ptrV ab] w fun e w' => (∃ v, e = .returned v) ∧ CAt R p s (.blk ab (theK s.l k).c 59 :: .blk cb [ptrV p] 25 :: L) w' := by
  obtain ⟨sl, HS, ok⟩ := H
  obtain ⟨hi, heq⟩ := the_at ok.srt hh
  have hlen := ok.len
  obtain ⟨g, sc, rfl, hcap, c0, c1, c2, c3⟩ := own_al (HS.re (.step (.there (.here _ _)) (.same _))) hi
  have q1 := HS.cell (b := p) (o := 2) (.here _ _) rfl
  have q2 := HS.cell (b := cb) (o := 0) (.there (.there (.there (.here _ _)))) rfl
  have q3 := fun o v (h : (Al.c ⟨0, 0, 0, 0⟩)[o]? = some v) => HS.cell (b := ab) (o := o) (.there (.there (.here _ _))) h
  have b0 := q3 0 _ rfl
  have b1 := q3 1 _ rfl
  have b2 := q3 2 _ rfl
  have b3 := q3 3 _ rfl
  have f0 := HS.free (b := ab) (.there (.there (.here _ _)))
  rw [heq] at c0 c1 c2 c3
  generalize hx : theK s.l k = x at *
  obtain ⟨x0, x1, x2, x3⟩ := x
  have hfin := Lib.hid (show CAt R p s (.blk ab (Al.c ⟨x0, x1, x2, x3⟩) 59 :: .blk cb [ptrV p] 25 :: L) ((((w.setCell ⟨ab, 0, none⟩ (.int .u64 x0)).setCell ⟨ab, 1, none⟩ (.int .i64 x1)).setCell ⟨ab, 2, none⟩ (.int .i64 x2)).setCell ⟨ab, 3, none⟩ (.int .i64 x3)) from
    ((((CAt.put (o := 0) (show CAt R p s _ w from ⟨_, HS, ok⟩) (.int .u64 x0)).put (o := 1) (.int .i64 x1)).put (o := 2) (.int .i64 x2)).put (o := 3) (.int .i64 x3)))
  have hi2 : i < 100000 := by omega
  clear HS ok heq hlen hh q3 hx
  generalize s.l.length = n at *
  unfold ptrV at *
  dsimp only at *
  go_enter Try.func50, Try.ntmps50
  go_wp2_with fail
  refine bodyPost_end (results_none rfl _ _ _) rfl ⟨⟨_, rfl⟩, ?_⟩
  exact hfin.out
theorem told_fin {e : Ending} {x : Al} {a b c d : Int} (h : e = .returned (.agg #[.int .u64 a, .int .i64 b, .int .i64 c, .int .i64 d])) (h2 : x = ⟨a, b, c, d⟩) : e = .returned (.agg x.c.toArray) := by subst h2; exact h
theorem told_c (H : CAt R p s L w) (k : Int) :
    Calls Try.prog 33 #[ptrV p, .int .u64 k] w fun e w' => e = .returned (.agg (theK s.l k).c.toArray) ∧ CAt R p s L w' := by
  have H1 := H.alloc [ptrV p] 25
  have hs1 : (w.alloc (.cells [ptrV p].toArray 25)).heap.size = w.heap.size + 1 := World.size_alloc _ _
  have H2 := H1.alloc (Al.c ⟨0, 0, 0, 0⟩) 59
  rw [hs1] at H2
  have ho : Hid (∀ f : Value, f = .func (.func 50) #[] #[ptrV w.heap.size, ptrV (w.heap.size + 1)] → Calls Try.prog 29 #[ptrV p, .int .u64 k, f] ((w.alloc (.cells [ptrV p].toArray 25)).alloc (.cells (Al.c ⟨0, 0, 0, 0⟩).toArray 59)) fun e w' => (∃ z, e = .returned (.int .i64 z)) ∧ CAt R p s (.blk (w.heap.size + 1) (theK s.l k).c 59 :: .blk w.heap.size [ptrV p] 25 :: L) w') := Lib.hid (by
    rintro f rfl
    cases hy : hasK s.l k with
    | true =>
      refine (on_told H2 k hy (ptrV w.heap.size) (ptrV (w.heap.size + 1)) (fun V i h1 h2 => toldf_c h1 h2)).mono ?_
      rintro e w' ⟨rfl, h⟩
      exact ⟨⟨_, rfl⟩, h⟩
    | false =>
      refine (on_no H2 k hy _).mono ?_
      rintro e w' ⟨rfl, h⟩
      rw [the_no hy]
      exact ⟨⟨_, rfl⟩, h⟩)
  have hnx : Hid (∀ a b c d, theK s.l k = ⟨a, b, c, d⟩ → Al.c (theK s.l k) = [.int .u64 a, .int .i64 b, .int .i64 c, .int .i64 d]) := Lib.hid fun a b c d h => by rw [h]; rfl
  obtain ⟨x, hx⟩ : ∃ x, theK s.l k = x := ⟨_, rfl⟩
  rw [hx] at ho hnx ⊢
  obtain ⟨x0, x1, x2, x3⟩ := x
  have hc : (Al.c ⟨x0, x1, x2, x3⟩) = [.int .u64 x0, .int .i64 x1, .int .i64 x2, .int .i64 x3] := rfl
  rw [hc] at ho ⊢
  clear H H1 H2 hx hnx hc
  rw [show Al.c ⟨0, 0, 0, 0⟩ = [.int .u64 0, .int .i64 0, .int .i64 0, .int .i64 0] from rfl] at ho
  unfold ptrV at *
  go_enter Try.func33, Try.ntmps33
  go_wp2_with fail
  refine (ho.out _ rfl).mono ?_
  rintro e w3 ⟨⟨z, rfl⟩, H3⟩
  clear ho
  generalize w.heap.size + 1 = ab at *
  generalize w.heap.size = cb at *
  have b0 := H3.tail.cell (b := ab) (o := 0) (.here _ _) rfl
  have b1 := H3.tail.cell (b := ab) (o := 1) (.here _ _) rfl
  have b2 := H3.tail.cell (b := ab) (o := 2) (.here _ _) rfl
  have b3 := H3.tail.cell (b := ab) (o := 3) (.here _ _) rfl
  have f0 := H3.tail.free (b := ab) (.here _ _)
  have H4 := (((H3.put (o := 0) (.int .u64 x0)).put (o := 1) (.int .i64 x1)).put (o := 2) (.int .i64 x2)).put (o := 3) (.int .i64 x3)
  dsimp only [List.set_cons_zero, List.set_cons_succ] at H4
  have hH := Lib.hid H4
  clear H3 H4
  go_wp2_with fail
  generalize (((w3.setCell ⟨ab, 0, none⟩ (.int .u64 x0)).setCell ⟨ab, 1, none⟩ (.int .i64 x1)).setCell ⟨ab, 2, none⟩ (.int .i64 x2)).setCell ⟨ab, 3, none⟩ (.int .i64 x3) = w4 at *
  clear b0 b1 b2 b3 f0
  have k0 := hH.out.tail.cell (b := ab) (o := 0) (.here _ _) rfl
  have k1 := hH.out.tail.cell (b := ab) (o := 1) (.here _ _) rfl
  have k2 := hH.out.tail.cell (b := ab) (o := 2) (.here _ _) rfl
  have k3 := hH.out.tail.cell (b := ab) (o := 3) (.here _ _) rfl
  exact bodyPost_ret (v := .agg #[.int .u64 x0, .int .i64 x1, .int .i64 x2, .int .i64 x3]) (by simp [results, Try.results33, go_sem, k0, k1, k2, k3]) rfl ⟨rfl, hH.out.re (.drop (.drop (.same _)))⟩
theorem field_state (a b c d : Int) (w : World) : (Instr.field 59 (.agg #[.int .u64 a, .int .i64 b, .int .i64 c, .int .i64 d]) 1).run Try.prog w = .ok (.agg #[.int .i64 b, .int .i64 c, .int .i64 d]) w := by kernel_rfl
theorem field_left (b c d : Int) (w : World) : (Instr.field 57 (.agg #[.int .i64 b, .int .i64 c, .int .i64 d]) 1).run Try.prog w = .ok (.int .i64 c) w := by kernel_rfl
theorem field_rung (b c d : Int) (w : World) : (Instr.field 57 (.agg #[.int .i64 b, .int .i64 c, .int .i64 d]) 2).run Try.prog w = .ok (.int .i64 d) w := by kernel_rfl
theorem left_c (H : CAt R p s L w) (k : Int) :
    Calls Try.prog 13 #[ptrV p, .int .u64 k] w fun e w' => e = .returned (.tuple #[.int .i64 (theK s.l k).left, .bool (decide (0 < (theK s.l k).left))]) ∧ CAt R p s L w' := by
  have ho := Lib.hid (told_c H k)
  clear H
  unfold Al.c at *
  generalize theK s.l k = x at *
  obtain ⟨x0, x1, x2, x3⟩ := x
  dsimp only at *
  unfold ptrV at *
  go_enter Try.func13, Try.ntmps13
  go_wp2_with fail
  refine ho.out.mono ?_
  rintro e w2 ⟨rfl, H2⟩
  have hfin := Lib.hid H2
  have g1 := fun V => field_state x0 x1 x2 x3 V
  have g2 := fun V => field_left x1 x2 x3 V
  clear ho H2
  go_wp2_with fail
  go_ret2
  exact ⟨rfl, hfin.out⟩
theorem rung_c (H : CAt R p s L w) (k : Int) :
    Calls Try.prog 14 #[ptrV p, .int .u64 k] w fun e w' => e = .returned (.int .i64 (theK s.l k).rung) ∧ CAt R p s L w' := by
  have ho := Lib.hid (told_c H k)
  clear H
  unfold Al.c at *
  generalize theK s.l k = x at *
  obtain ⟨x0, x1, x2, x3⟩ := x
  dsimp only at *
  unfold ptrV at *
  go_enter Try.func14, Try.ntmps14
  go_wp2_with fail
  refine ho.out.mono ?_
  rintro e w2 ⟨rfl, H2⟩
  have hfin := Lib.hid H2
  have g1 := fun V => field_state x0 x1 x2 x3 V
  have g2 := fun V => field_rung x1 x2 x3 V
  clear ho H2
  go_wp2_with fail
  go_ret
  exact ⟨rfl, hfin.out⟩
end
end Go.Proofs.Ytcjmkpphohkofaa
