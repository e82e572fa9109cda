/- Next. -/
import Derived.Test.YtcjmkpphohkofaaKeys
import Derived.RangeFuncCalls
import Derived.Shelf.RegionOpen
namespace Go.Proofs.Ytcjmkpphohkofaa
open Go.RowKit Go.Shelf
set_option linter.unusedVariables false
attribute [local go_sem] Oper.semAt_some

/-- The least of what is left, and a bound. -/
def leastK (b : Int) (l : List Al) : Int := l.foldl (fun m x => min m x.left) b
theorem leastK_take {b : Int} {l : List Al} {i : Nat} (hi : i < l.length) : leastK b (l.take (i + 1)) = min (leastK b (l.take i)) (l[i]'hi).left := by
  rw [List.take_succ_eq_append_getElem hi]
  unfold leastK
  rw [List.foldl_append]
  rfl

section
variable {R : Int} {p : Nat} {s : Ck} {L : List Pc} {w : World}
theorem next_no (H0 : CAt R p s L w) (hl : s.l = []) :
    Calls Try.prog 17 #[ptrV p] w fun e w' => e = .returned (.tuple #[.int .i64 0, .bool false]) ∧ w = w' := by
  have hno := Lib.hid (none_c H0)
  obtain ⟨sl, H, ok⟩ := H0
  obtain ⟨sa, sc, g, rfl, hsl⟩ := sl_parts (H.re (.step (.there (.here _ _)) (.same _)))
  have c2 := H.cell (b := p) (o := 2) (.here _ _) rfl
  rw [hl, List.length_nil] at c2
  clear H ok hsl hl
  unfold ptrV at *
  go_enter Try.func17, Try.ntmps17
  go_wp2_with fail
  refine hno.out.mono ?_
  rintro e w' ⟨rfl, rfl⟩
  go_wp2_with fail
  go_ret2
  exact ⟨rfl, rfl⟩
set_option maxHeartbeats 4000000 in
theorem next_yes (H0 : CAt R p s L w) (hl : s.l ≠ []) :
    Calls Try.prog 17 #[ptrV p] w fun e w' => e = .returned (.tuple #[.int .i64 (leastK s.b s.l), .bool true]) ∧ CAt R p s L w' := by
  have hno := Lib.hid (none_c H0)
  obtain ⟨sl, H, ok⟩ := H0
  obtain ⟨sa, sc, g, rfl, hsl⟩ := sl_parts (H.re (.step (.there (.here _ _)) (.same _)))
  obtain ⟨a, b, l⟩ := s
  dsimp only at *
  have hok := Lib.hid ok
  have hlen := ok.len
  dsimp only at hlen
  have hn0 : 0 < l.length := List.length_pos_iff.2 hl
  have hall := Lib.hid (fun V L' (h : SL V L') => all_c p V h)
  obtain ⟨n, hn⟩ : ∃ n, l.length = n := ⟨_, rfl⟩
  have hg := Lib.hid (fun B => all_gives B p a b sa sc g n (fun _ => l) (fun _ => hn) (by omega) (by rw [← hn]; exact hsl))
  have hn' := Lib.hid hn
  have hH := Lib.hid (show SL w (ckP p (.slice sa n sc) ⟨a, b, l⟩ ++ L) from by rw [hn] at H; exact H)
  have c2 := hH.out.cell (b := p) (o := 2) (.here _ _) rfl
  have c1 := hH.out.cell (b := p) (o := 1) (.here _ _) rfl
  rw [hn] at hlen hsl hn0
  have hmx : Try.prog.follows .mixedOrders = true := by kernel_rfl
  clear H ok hn hl
  refine calls_of_marks Try.func17 rfl ?_
  simp only [Try.ntmps17, List.size_toArray, List.length_cons, List.length_nil, Nat.reduceAdd, Nat.reduceSub, Array.replicate_succ, Array.replicate_zero, List.push_toArray, List.append_toArray, List.nil_append, List.cons_append]
  unfold ptrV at *
  gi_wp2_with fail
  refine ⟨trivial, rfl, calls_in (hno.out.mono ?_)⟩
  rintro e w' ⟨rfl, rfl⟩
  clear hno
  gi_wp2_with fail
  have H1 := hH.out.alloc [.int .i64 b] 3
  generalize w.alloc (.cells [Value.int .i64 b].toArray 3) = w1 at *
  generalize w.heap.size = S at *
  refine ⟨trivial, rfl, calls_in ((hall.out _ _ H1).mono ?_)⟩
  rintro e w2 ⟨B, rfl, H2⟩
  have H3 := Lib.hid (it_put (N := ckP p (.slice sa n sc) ⟨a, b, l⟩) (O := [.blk S [.int .i64 b] 3]) H2)
  clear H1 H2 hall hH c1 c2
  gi_wp2_with fail
  refine wp_rangeS rfl egA (hg.out B) (by intro x hx; obtain ⟨k, _, rfl⟩ := List.mem_map.1 hx; rfl)
    (fun i L' => L' = .blk S [.int .i64 (leastK b (l.take i))] 3 :: L) (fun _ _ _ => False) (L0 := .blk S [.int .i64 b] 3 :: L) rfl H3.out ?_ ?_ ?_
  · rintro i hi V ll _ T rfl H
    have hi' : i < n := by rw [alX_length] at hi; exact hi
    rw [alX_at]
    have hil : i < l.length := by rw [hn'.out]; exact hi'
    obtain ⟨rfl, hnc⟩ := hsl (by omega)
    have hcell : Hid (∀ V (R : List Pc), SL V (.own 59 4 (.slice (some ⟨g, 0, none⟩) n sc) n (alC l) :: R) → V.cell? ⟨g, i * 4 + 2, none⟩ = some (.int .i64 (l[i]'hil).left)) := Lib.hid fun V R h => by
      rw [← hn'.out] at h
      obtain ⟨g', cap', e, -, -, -, h0, -⟩ := own_al h hil
      cases e
      exact h0
    have htk := Lib.hid (leastK_take (b := b) hil)
    generalize (l[i]'hil).left = k at *
    clear H3 hg
    gi_wp2_with fail
    refine ⟨_, H, ?_⟩
    clear H
    intro V2 T2 H
    have h2 := H.re (re_right (.blk S [.int .i64 (leastK b (l.take i))] 3 :: L) _)
    rw [← hn'.out] at hcell h2
    have c1 := hcell.out V2 _ (SL.tail (SL.tail h2))
    have s0 := H.cell (b := S) (o := 0) (.here _ _) rfl
    have f0 := H.free (b := S) (.here _ _) 0
    have hlt := blk_lt (show V2.heap[S]? = some _ from H.head)
    have H9 := Lib.hid (H.setCell 0 (.int .i64 (leastK b (l.take (i + 1)))))
    rw [htk.out] at H9
    obtain ⟨m, hm⟩ : ∃ m, leastK b (l.take i) = m := ⟨_, rfl⟩
    have hm' := Lib.hid hm
    rw [hm] at H9 s0 htk
    clear H hcell h2 hm
    gi_wp2_with fail
    gi_region_with_o (fail)
    all_goals
      gi_wp2_with fail
      exact ⟨_, rfl, by rw [htk.out]; exact H9.out.drew⟩
  · rintro V _ D rfl H
    rw [alX_length, show l.take n = l from by rw [← hn'.out, List.take_length]] at H
    have H' := (it_get (D := [.obj D (.deferred (some []))]) (O := [.blk S [.int .i64 (leastK b l)] 3]) (N := ckP p (.slice sa n sc) ⟨a, b, l⟩) (L := L) (by unfold ckP; rw [← hn'.out] at H ⊢; exact H))
    have z := H.cell (b := S) (o := 0) (.there (.here _ _)) rfl
    have H'' := Lib.hid H'
    obtain ⟨m, hm⟩ : ∃ m, leastK b l = m := ⟨_, rfl⟩
    have hm' := Lib.hid hm
    rw [hm] at z H''
    clear H H3 hg H' hm
    gi_wp2_with fail
    refine leaveS (v := .tuple #[.int .i64 m, .bool true]) H''.out ?_ ?_
    · intro V h
      simp [results, Try.results17, go_sem]
    · intro V h
      refine ⟨by rw [hm'.out], .slice sa n sc, ?_, hok.out⟩
      exact h.tail
  · exact fun c i V L D h _ => h.elim
end
end Go.Proofs.Ytcjmkpphohkofaa
