/- The walk of do: Peek. Printed by gendo.py. -/
import Derived.Test.YtnkahibddhchlaaRfQ
namespace Go.Proofs.Ytnkahibddhchlaa
open Go.RowKit Go.Shelf
set_option linter.unusedVariables false

section
variable {p y : Nat} {s : NSt} {L : List Pc} {w : World}
set_option maxRecDepth 100000 in
set_option maxHeartbeats 8000000 in
theorem do_peek_yes (H : Bth p s y s L w) (ht : Tok 900000000 s.t) (x : OpI) (hop : ∀ V, SL V L → OpOk V x) (hk : x.kind = 6) (hh : s.has x.fr x.dst x.at' = true) :
    Calls Try.prog 23 #[ptrV p, ptrV y, .agg (opV x).toArray] w fun e w' => ∃ p', e = .returned (.tuple #[ptrV p', .bool true]) ∧ Bth p' (s.play x) y (s.play x) L w' := by
  have e : s.play x = s := by unfold NSt.play; simp [hk]
  rw [e]
  have hA := H.all
  obtain ⟨o1, o2, o3, o4, o5⟩ := hop w H.tail
  have hH := Lib.hid (H.alloc (opV x) 46)
  have hthe : (s.the x.fr x.dst x.at').length ≤ 1100 := by obtain ⟨N, hN, h⟩ := H; exact h.the_le _ _ _
  have hd1 := Lib.hid (fun V L (h : Bth p s y s L V) => h.out1 fun L' h' => peek_yes h' o1 o2 hh)
  have hatf := Lib.hid (fun N V L (h : RfIs y s N) (h' : SL V (N ++ L)) => h.at_yes h' hA hh)
  have hfin : Hid (∀ V, Bth p (s) y (s) (.blk w.heap.size (opV x) 46 :: L) V → Bth p (s) y (s) L V) := Lib.hid fun V h => h.re (.drop (.same _))
  clear H hop hA o1 o2 o3 o4 o5 e
  unfold opV inV at *
  generalize s.the x.fr x.dst x.at' = bs at *
  clear hh
  obtain ⟨kind, fr, dst, at', bit, bb⟩ := x
  dsimp only at *
  subst hk
  unfold ptrV at *
  go_enter Try.func23, Try.ntmps23
  go_upto_region 1 with (fail)
  generalize w.alloc (.cells [Value.int .i64 6, .int .i64 fr, .int .i64 dst, .int .i64 at', .int .i64 bit, .slice bb.g bb.bs.length bb.c].toArray 46) = w1 at *
  generalize w.heap.size = ob at *
  have c0 := hH.out.tail.cell (b := ob) (o := 0) (.here _ _) rfl
  have c1 := hH.out.tail.cell (b := ob) (o := 1) (.here _ _) rfl
  have c2 := hH.out.tail.cell (b := ob) (o := 2) (.here _ _) rfl
  have c3 := hH.out.tail.cell (b := ob) (o := 3) (.here _ _) rfl
  go_wp2_with fail
  refine (hd1.out _ _ hH.out).mono ?_
  rintro e w2 ⟨v1, rfl, H2⟩
  clear c0 c1 c2 c3 hH hd1
  have c1 := H2.tail.cell (b := ob) (o := 1) (.there (.here _ _)) rfl
  have c2 := H2.tail.cell (b := ob) (o := 2) (.there (.here _ _)) rfl
  have c3 := H2.tail.cell (b := ob) (o := 3) (.there (.here _ _)) rfl
  obtain ⟨N, hN, HN⟩ := H2
  have hat := Lib.hid (hatf.out N _ _ hN HN.tail)
  have hHN := Lib.hid HN
  have hN' := Lib.hid hN
  clear HN hN hatf
  go_wp2_with fail
  refine hat.out.mono ?_
  rintro e w3 ⟨rfl, i, ln, g, c, va, vc, hi, hlc, rfl, hV⟩
  obtain ⟨y2, gc, -, -⟩ := hV _ _ hHN.out.tail
  have hb := Lib.hid (b_bytes2 hHN.out hthe va vc fun V L' h => (hV V L' h).2.2.1)
  clear hat hHN c1 c2 c3 hV
  obtain ⟨v2, vn, vd⟩ := v1
  unfold slV at *
  dsimp only at *
  generalize bs.length = bl at *
  go_wp2_with fail
  refine hb.out.mono ?_
  rintro e w4 ⟨rfl, H4⟩
  have hf2 := Lib.hid (hfin.out _ ⟨N, hN'.out, H4⟩)
  clear hb H4 hfin
  go_wp2_with fail
  go_ret2
  exact ⟨p, rfl, hf2.out⟩
set_option maxRecDepth 100000 in
set_option maxHeartbeats 8000000 in
theorem do_peek_no (H : Bth p s y s L w) (ht : Tok 900000000 s.t) (x : OpI) (hop : ∀ V, SL V L → OpOk V x) (hk : x.kind = 6) (hh : s.has x.fr x.dst x.at' = false) :
    Calls Try.prog 23 #[ptrV p, ptrV y, .agg (opV x).toArray] w fun e w' => ∃ p', e = .returned (.tuple #[ptrV p', .bool true]) ∧ Bth p' (s.play x) y (s.play x) L w' := by
  have e : s.play x = s := by unfold NSt.play; simp [hk]
  rw [e]
  have hA := H.all
  obtain ⟨o1, o2, o3, o4, o5⟩ := hop w H.tail
  have hH := Lib.hid (H.alloc (opV x) 46)
  have hd1 := Lib.hid (fun V L (h : Bth p s y s L V) => h.quiet1 fun L' h' => (peek_no h' o1 o2 hh).mono fun e w' ⟨a, b⟩ => ⟨a, b ▸ h'⟩)
  have hatf := Lib.hid (fun V L (h : Bth p s y s L V) => (show Calls Try.prog 45 #[ptrV y, .int .i64 x.fr, .int .i64 x.dst, .int .i64 x.at'] V fun e w' => V = w' ∧ ∃ r, r < 0 ∧ e = .returned (.int .i64 r) from by
    obtain ⟨N, hN, h2⟩ := h.rf
    exact (rf_at h2 hA x.fr x.dst x.at').mono fun e w' ⟨r, h3, h4, h5⟩ => ⟨h4, r, h5.2 hh, h3⟩))
  have hb := Lib.hid bytes_nil
  have hfin : Hid (∀ V, Bth p (s) y (s) (.blk w.heap.size (opV x) 46 :: L) V → Bth p (s) y (s) L V) := Lib.hid fun V h => h.re (.drop (.same _))
  clear H hop hA o1 o2 o3 o4 o5 e
  unfold opV inV at *
  clear hh
  obtain ⟨kind, fr, dst, at', bit, bb⟩ := x
  dsimp only at *
  subst hk
  unfold ptrV at *
  go_enter Try.func23, Try.ntmps23
  go_upto_region 1 with (fail)
  generalize w.alloc (.cells [Value.int .i64 6, .int .i64 fr, .int .i64 dst, .int .i64 at', .int .i64 bit, .slice bb.g bb.bs.length bb.c].toArray 46) = w1 at *
  generalize w.heap.size = ob at *
  have c0 := hH.out.tail.cell (b := ob) (o := 0) (.here _ _) rfl
  have c1 := hH.out.tail.cell (b := ob) (o := 1) (.here _ _) rfl
  have c2 := hH.out.tail.cell (b := ob) (o := 2) (.here _ _) rfl
  have c3 := hH.out.tail.cell (b := ob) (o := 3) (.here _ _) rfl
  go_wp2_with fail
  refine (hd1.out _ _ hH.out).mono ?_
  rintro e w2 ⟨rfl, H2⟩
  clear c0 c1 c2 c3 hH hd1
  have c1 := H2.tail.cell (b := ob) (o := 1) (.here _ _) rfl
  have c2 := H2.tail.cell (b := ob) (o := 2) (.here _ _) rfl
  have c3 := H2.tail.cell (b := ob) (o := 3) (.here _ _) rfl
  have hat := Lib.hid (hatf.out _ _ H2)
  have hf2 := Lib.hid (hfin.out _ H2)
  clear H2 hatf hfin
  go_wp2_with fail
  refine hat.out.mono ?_
  rintro e w3 ⟨rfl, r, hr, rfl⟩
  have hge : decide (0 ≤ r) = false := by simp; omega
  clear hat c1 c2 c3
  go_wp2_with fail
  refine (hb.out _).mono ?_
  rintro e w4 ⟨rfl, rfl⟩
  go_wp2_with fail
  go_ret2
  exact ⟨p, rfl, hf2.out⟩
end
end Go.Proofs.Ytnkahibddhchlaa
