/- The walk of do: the kinds 1, 5, 8, and those above 9. Printed by gendo.py. -/
import Derived.Test.YtnkahibddhchlaaRfN
namespace Go.Proofs.Ytnkahibddhchlaa
open Go.RowKit Go.Shelf
set_option linter.unusedVariables false

section
variable {p y : Nat} {s : NSt} {L : List Pc} {w : World}
set_option maxRecDepth 100000 in
set_option maxHeartbeats 8000000 in
theorem do_clear (H : Bth p s y s L w) (ht : Tok 900000000 s.t) (x : OpI) (hop : ∀ V, SL V L → OpOk V x) (hk : x.kind = 5) :
    Calls Try.prog 23 #[ptrV p, ptrV y, .agg (opV x).toArray] w fun e w' => ∃ p', e = .returned (.tuple #[ptrV p', .bool true]) ∧ Bth p' (s.play x) y (s.play x) L w' := by
  have e : s.play x = s.clr x.dst := by unfold NSt.play; simp [hk]
  rw [e]
  have hA := H.all
  obtain ⟨o1, o2, o3, o4, o5⟩ := hop w H.tail
  have hH := Lib.hid (H.alloc (opV x) 46)
  have hd1 := Lib.hid (fun V L (h : Bth p s y s L V) => b_clear1 h ht x.dst)
  have hd2 := Lib.hid (fun V L s1 (h : Bth p s1 y s L V) => b_clear2 h ht hA x.dst)
  obtain ⟨E, hE⟩ : ∃ E : Int, (clrN s x.dst).1 = E := ⟨_, rfl⟩
  obtain ⟨E2, hE2⟩ : ∃ E2 : Int, (clrN s x.dst).2 = E2 := ⟨_, rfl⟩
  rw [hE, hE2] at hd1 hd2
  clear hE hE2
  have hEE2 : (E2 == E2) = true := by simp
  have hEE : (E == E) = true := by simp
  have hfin : Hid (∀ V, Bth p (s.clr x.dst) y (s.clr x.dst) (.blk w.heap.size (opV x) 46 :: L) V → Bth p (s.clr x.dst) y (s.clr x.dst) L V) := Lib.hid fun V h => h.re (.drop (.same _))
  clear H hop hA o1 o2 o3 o4 o5 e
  unfold opV inV at *
  generalize s.clr x.dst = sd at *
  obtain ⟨kind, fr, dst, at', bit, bb⟩ := x
  dsimp only at *
  subst hk
  unfold ptrV at *
  go_enter Try.func23, Try.ntmps23
  go_upto_region 1 with (fail)
  generalize w.alloc (.cells [Value.int .i64 5, .int .i64 fr, .int .i64 dst, .int .i64 at', .int .i64 bit, .slice bb.g bb.bs.length bb.c].toArray 46) = w1 at *
  generalize w.heap.size = ob at *
  have c0 := hH.out.tail.cell (b := ob) (o := 0) (.here _ _) rfl
  have c2 := hH.out.tail.cell (b := ob) (o := 2) (.here _ _) rfl
  go_wp2_with fail
  refine (hd1.out _ _ hH.out).mono ?_
  rintro e w2 ⟨rfl, H2⟩
  clear c0 c2 hH
  have c2 := H2.tail.cell (b := ob) (o := 2) (.here _ _) rfl
  have hH := Lib.hid (hd2.out _ _ _ H2)
  clear H2
  go_wp2_with fail
  refine hH.out.mono ?_
  rintro e w3 ⟨rfl, H3⟩
  have hf2 := Lib.hid (hfin.out _ H3)
  clear H3 hfin hH c2 hd1 hd2
  go_wp2_with fail
  go_ret2
  exact ⟨p, rfl, hf2.out⟩
set_option maxRecDepth 100000 in
set_option maxHeartbeats 8000000 in
theorem do_sum (H : Bth p s y s L w) (ht : Tok 900000000 s.t) (x : OpI) (hop : ∀ V, SL V L → OpOk V x) (hk : x.kind = 8) :
    Calls Try.prog 23 #[ptrV p, ptrV y, .agg (opV x).toArray] w fun e w' => ∃ p', e = .returned (.tuple #[ptrV p', .bool true]) ∧ Bth p' (s.play x) y (s.play x) L w' := by
  have e : s.play x = s := by unfold NSt.play; simp [hk]
  rw [e]
  have hA := H.all
  obtain ⟨o1, o2, o3, o4, o5⟩ := hop w H.tail
  have hH := Lib.hid (H.alloc (opV x) 46)

  have hfin : Hid (∀ V, Bth p (s) y (s) (.blk w.heap.size (opV x) 46 :: L) V → Bth p (s) y (s) L V) := Lib.hid fun V h => h.re (.drop (.same _))
  clear H hop hA o1 o2 o3 o4 o5 e
  unfold opV inV at *
  obtain ⟨kind, fr, dst, at', bit, bb⟩ := x
  dsimp only at *
  subst hk
  unfold ptrV at *
  go_enter Try.func23, Try.ntmps23
  go_upto_region 1 with (fail)
  generalize w.alloc (.cells [Value.int .i64 8, .int .i64 fr, .int .i64 dst, .int .i64 at', .int .i64 bit, .slice bb.g bb.bs.length bb.c].toArray 46) = w1 at *
  generalize w.heap.size = ob at *
  have c0 := hH.out.tail.cell (b := ob) (o := 0) (.here _ _) rfl
  have hs := Lib.hid (sum_c hH.out)
  unfold ptrV at *
  go_wp2_with fail
  refine hs.out.mono ?_
  rintro e w2 ⟨rfl, H2⟩
  have hf2 := Lib.hid (hfin.out _ H2)
  clear H2 hfin hs hH c0
  go_wp2_with fail
  go_ret2
  exact ⟨p, rfl, hf2.out⟩
theorem b_bytes {s2 : NSt} {v v2 : SlT} {bs : List Int} (H : Bth p s y s2 (grP ⟨v2, bs⟩ :: grP ⟨v, bs⟩ :: L) w) (hl : bs.length ≤ 1100) :
    Calls Try.prog 40 #[slV v, slV v2] w fun e w' => e = .returned (.bool true) ∧ Bth p s y s2 L w' := by
  obtain ⟨N, hN, m, xs, h1, ok, hF⟩ := H
  have h2 : SL w (grP ⟨v, bs⟩ :: grP ⟨v2, bs⟩ :: (netP p m s.n s.room s.t xs ++ (N ++ L))) := h1.perm ((((List.perm_middle.trans (List.perm_middle.cons _)).append_left (netP p m s.n s.room s.t xs)).trans (List.perm_middle.trans (List.perm_middle.cons _))).trans (.swap _ _ _))
  obtain ⟨b, c, e, -, -, -⟩ := gr_slice h2 (.there (.here _ _))
  dsimp only at e
  subst e
  refine (bytes_own h2 hl b c fun V hV => ?_).mono ?_
  · obtain ⟨b', c', e, h3, h4, -⟩ := gr_slice hV (.here _ _)
    dsimp only at e h4
    cases e
    refine ⟨h4, fun h => ?_⟩
    subst h
    by_cases h0 : bs = []
    · exact h0
    · obtain ⟨_, _, e, _⟩ := h4 0 (List.length_pos_iff.2 h0)
      cases e
  · rintro e w' ⟨rfl, h⟩
    exact ⟨rfl, N, hN, m, xs, h.tail, ok, hF⟩
set_option maxRecDepth 100000 in
set_option maxHeartbeats 8000000 in
theorem do_deliver_yes (H : Bth p s y s L w) (ht : Tok 900000000 s.t) (x : OpI) (hop : ∀ V, SL V L → OpOk V x) (hk : x.kind = 1) (hh : s.has x.fr x.dst x.at' = true) :
    Calls Try.prog 23 #[ptrV p, ptrV y, .agg (opV x).toArray] w fun e w' => ∃ p', e = .returned (.tuple #[ptrV p', .bool true]) ∧ Bth p' (s.play x) y (s.play x) L w' := by
  have e : s.play x = { s.gone x.fr x.dst x.at' with t := { s.t with delivered := s.t.delivered + 1 } } := by unfold NSt.play; simp [hk, NSt.deliv, hh]
  rw [e]
  have hA := H.all
  obtain ⟨o1, o2, o3, o4, o5⟩ := hop w H.tail
  have hH := Lib.hid (H.alloc (opV x) 46)
  have hthe : (s.the x.fr x.dst x.at').length ≤ 1100 := by obtain ⟨N, hN, h⟩ := H; exact h.the_le _ _ _
  have hd1 := Lib.hid (fun V L (h : Bth p s y s L V) => h.out1 fun L' h' => deliver_yes h' (ht.mono (by omega)) o1 o2 hh)
  have hd2 := Lib.hid (fun V L s1 (h : Bth p s1 y s L V) => h.out2 fun L' h' => rf_deliver_yes h' ht hA hh)
  have hfin : Hid (∀ V, Bth p ({ s.gone x.fr x.dst x.at' with t := { s.t with delivered := s.t.delivered + 1 } }) y ({ s.gone x.fr x.dst x.at' with t := { s.t with delivered := s.t.delivered + 1 } }) (.blk w.heap.size (opV x) 46 :: L) V → Bth p ({ s.gone x.fr x.dst x.at' with t := { s.t with delivered := s.t.delivered + 1 } }) y ({ s.gone x.fr x.dst x.at' with t := { s.t with delivered := s.t.delivered + 1 } }) L V) := Lib.hid fun V h => h.re (.drop (.same _))
  clear H hop hA o1 o2 o3 o4 o5 e
  unfold opV inV at *
  generalize ({ s.gone x.fr x.dst x.at' with t := { s.t with delivered := s.t.delivered + 1 } } : NSt) = sd at *
  generalize s.the x.fr x.dst x.at' = bs at *
  clear hh
  obtain ⟨kind, fr, dst, at', bit, bb⟩ := x
  dsimp only at *
  subst hk
  unfold ptrV at *
  go_enter Try.func23, Try.ntmps23
  go_upto_region 1 with (fail)
  generalize w.alloc (.cells [Value.int .i64 1, .int .i64 fr, .int .i64 dst, .int .i64 at', .int .i64 bit, .slice bb.g bb.bs.length bb.c].toArray 46) = w1 at *
  generalize w.heap.size = ob at *
  have c0 := hH.out.tail.cell (b := ob) (o := 0) (.here _ _) rfl
  have c1 := hH.out.tail.cell (b := ob) (o := 1) (.here _ _) rfl
  have c2 := hH.out.tail.cell (b := ob) (o := 2) (.here _ _) rfl
  have c3 := hH.out.tail.cell (b := ob) (o := 3) (.here _ _) rfl
  go_wp2_with fail
  refine (hd1.out _ _ hH.out).mono ?_
  rintro e w2 ⟨v1, rfl, H2⟩
  clear c0 c1 c2 c3 hH
  have c1 := H2.tail.cell (b := ob) (o := 1) (.there (.here _ _)) rfl
  have c2 := H2.tail.cell (b := ob) (o := 2) (.there (.here _ _)) rfl
  have c3 := H2.tail.cell (b := ob) (o := 3) (.there (.here _ _)) rfl
  have hH := Lib.hid (hd2.out _ _ _ H2)
  clear H2
  go_wp2_with fail
  refine hH.out.mono ?_
  rintro e w3 ⟨v2, rfl, H3⟩
  have hb := Lib.hid (b_bytes H3 hthe)
  clear H3 hH c1 c2 c3 hd1 hd2
  obtain ⟨va, vn, vc⟩ := v1
  obtain ⟨vb, vm, vd⟩ := v2
  unfold slV at *
  dsimp only at *
  go_wp2_with fail
  refine hb.out.mono ?_
  rintro e w4 ⟨rfl, H4⟩
  have hf2 := Lib.hid (hfin.out _ H4)
  clear hb H4 hfin
  go_wp2_with fail
  go_ret2
  exact ⟨p, rfl, hf2.out⟩
set_option maxRecDepth 100000 in
set_option maxHeartbeats 8000000 in
theorem do_deliver_no (H : Bth p s y s L w) (ht : Tok 900000000 s.t) (x : OpI) (hop : ∀ V, SL V L → OpOk V x) (hk : x.kind = 1) (hh : s.has x.fr x.dst x.at' = false) :
    Calls Try.prog 23 #[ptrV p, ptrV y, .agg (opV x).toArray] w fun e w' => ∃ p', e = .returned (.tuple #[ptrV p', .bool true]) ∧ Bth p' (s.play x) y (s.play x) L w' := by
  have e : s.play x = s := by unfold NSt.play; simp [hk, NSt.deliv, hh]
  rw [e]
  have hA := H.all
  obtain ⟨o1, o2, o3, o4, o5⟩ := hop w H.tail
  have hH := Lib.hid (H.alloc (opV x) 46)
  have hd1 := Lib.hid (fun V L (h : Bth p s y s L V) => h.quiet1 fun L' h' => (deliver_no h' o1 o2 hh).mono fun e w' ⟨a, b⟩ => ⟨a, b ▸ h'⟩)
  have hd2 := Lib.hid (fun V L (h : Bth p s y s L V) => h.quiet2 fun L' h' => (rf_deliver_no h' hA hh).mono fun e w' ⟨a, b⟩ => ⟨a, b ▸ h'⟩)
  have hb := Lib.hid bytes_nil
  have hfin : Hid (∀ V, Bth p (s) y (s) (.blk w.heap.size (opV x) 46 :: L) V → Bth p (s) y (s) L V) := Lib.hid fun V h => h.re (.drop (.same _))
  clear H hop hA o1 o2 o3 o4 o5 e
  unfold opV inV at *
  clear hh
  obtain ⟨kind, fr, dst, at', bit, bb⟩ := x
  dsimp only at *
  subst hk
  unfold ptrV at *
  go_enter Try.func23, Try.ntmps23
  go_upto_region 1 with (fail)
  generalize w.alloc (.cells [Value.int .i64 1, .int .i64 fr, .int .i64 dst, .int .i64 at', .int .i64 bit, .slice bb.g bb.bs.length bb.c].toArray 46) = w1 at *
  generalize w.heap.size = ob at *
  have c0 := hH.out.tail.cell (b := ob) (o := 0) (.here _ _) rfl
  have c1 := hH.out.tail.cell (b := ob) (o := 1) (.here _ _) rfl
  have c2 := hH.out.tail.cell (b := ob) (o := 2) (.here _ _) rfl
  have c3 := hH.out.tail.cell (b := ob) (o := 3) (.here _ _) rfl
  go_wp2_with fail
  refine (hd1.out _ _ hH.out).mono ?_
  rintro e w2 ⟨rfl, H2⟩
  clear c0 c1 c2 c3 hH
  have c1 := H2.tail.cell (b := ob) (o := 1) (.here _ _) rfl
  have c2 := H2.tail.cell (b := ob) (o := 2) (.here _ _) rfl
  have c3 := H2.tail.cell (b := ob) (o := 3) (.here _ _) rfl
  have hH := Lib.hid (hd2.out _ _ H2)
  clear H2
  go_wp2_with fail
  refine hH.out.mono ?_
  rintro e w3 ⟨rfl, H3⟩
  have hf2 := Lib.hid (hfin.out _ H3)
  clear H3 hH c1 c2 c3 hd1 hd2 hfin
  go_wp2_with fail
  refine (hb.out _).mono ?_
  rintro e w4 ⟨rfl, rfl⟩
  go_wp2_with fail
  go_ret2
  exact ⟨p, rfl, hf2.out⟩
end
end Go.Proofs.Ytnkahibddhchlaa
