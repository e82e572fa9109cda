/- The walk of do, for most kinds. Printed by gendo.py. -/
import Derived.Test.YtnkahibddhchlaaRfM
namespace Go.Proofs.Ytnkahibddhchlaa
open Go.RowKit Go.Shelf
set_option linter.unusedVariables false

section
variable {p y : Nat} {s : NSt} {L : List Pc} {w : World}
set_option maxRecDepth 100000 in
set_option maxHeartbeats 8000000 in
theorem do_drop (H : Bth p s y s L w) (ht : Tok 900000000 s.t) (x : OpI) (hop : ∀ V, SL V L → OpOk V x) (hk : x.kind = 2) :
    Calls Try.prog 23 #[ptrV p, ptrV y, .agg (opV x).toArray] w fun e w' => ∃ p', e = .returned (.tuple #[ptrV p', .bool true]) ∧ Bth p' (s.play x) y (s.play x) L w' := by
  have e : s.play x = s.drop x.fr x.dst x.at' := by unfold NSt.play; simp [hk]
  rw [e]
  have hA := H.all
  obtain ⟨o1, o2, o3, o4, o5⟩ := hop w H.tail
  have hH := Lib.hid (H.alloc (opV x) 46)
  have hd1 := Lib.hid (fun V L (h : Bth p s y s L V) => b_drop1 h ht x.at' o1 o2)
  have hd2 := Lib.hid (fun V L s1 (h : Bth p s1 y s L V) => b_drop2 h ht hA x.fr x.dst x.at')
  obtain ⟨E, hE⟩ : ∃ E : Int, (if s.has x.fr x.dst x.at' = true then 0 else 170) = E := ⟨_, rfl⟩
  rw [hE] at hd1 hd2
  clear hE
  have hEE : (E == E) = true := by simp
  have hfin : Hid (∀ V, Bth p (s.drop x.fr x.dst x.at') y (s.drop x.fr x.dst x.at') (.blk w.heap.size (opV x) 46 :: L) V → Bth p (s.drop x.fr x.dst x.at') y (s.drop x.fr x.dst x.at') L V) := Lib.hid fun V h => h.re (.drop (.same _))
  clear H hop hA o1 o2 o3 o4 o5 e
  unfold opV inV at *
  generalize s.drop x.fr x.dst x.at' = sd at *
  obtain ⟨kind, fr, dst, at', bit, bb⟩ := x
  dsimp only at *
  subst hk
  unfold ptrV at *
  go_enter Try.func23, Try.ntmps23
  go_upto_region 1 with (fail)
  generalize w.alloc (.cells [Value.int .i64 2, .int .i64 fr, .int .i64 dst, .int .i64 at', .int .i64 bit, .slice bb.g bb.bs.length bb.c].toArray 46) = w1 at *
  generalize w.heap.size = ob at *
  have c0 := hH.out.tail.cell (b := ob) (o := 0) (.here _ _) rfl
  go_upto_region 17 with (fail)
  clear c0
  refine wp_region_held_drew (S := (fun W => W.cell? ⟨ob, 1, none⟩ = some (.int .i64 fr) ∧ W.cell? ⟨ob, 2, none⟩ = some (.int .i64 dst) ∧ W.cell? ⟨ob, 3, none⟩ = some (.int .i64 at'))) (by kernel_rfl) ?_ (fun hHeld => ?_)
  · have H := hH.out.drew
    exact ⟨H.tail.cell (b := ob) (o := 1) (.here _ _) rfl, H.tail.cell (b := ob) (o := 2) (.here _ _) rfl, H.tail.cell (b := ob) (o := 3) (.here _ _) rfl⟩
  have H := hH.out.drew
  generalize World.drew w1 = w4 at *
  clear hH
  refine takeL (i := 0) rfl (by kernel_rfl) (by kernel_rfl) (by kernel_rfl) (fun _ _ _ _ h => h) hHeld ?_ (Or.inl ⟨by rfl, ?_⟩) ?_
  rotate_left
  · intro W hW
    (try dsimp only at hW)
    first | (go_simp; done) | (go_simp; with_reducible rfl)
  ((try simp only [Act.put]); (try simp only [List.setIfInBounds_toArray]); (try simp only [List.set_cons_succ]); (try simp only [List.set_cons_zero]))
  refine takeL (i := 1) rfl (by kernel_rfl) (by kernel_rfl) (by kernel_rfl) (fun _ _ _ _ h => h) hHeld ?_ (Or.inl ⟨by rfl, ?_⟩) ?_
  rotate_left
  · intro W hW
    (try dsimp only at hW)
    first | (go_simp; done) | (go_simp; with_reducible rfl)
  ((try simp only [Act.put]); (try simp only [List.setIfInBounds_toArray]); (try simp only [List.set_cons_succ]); (try simp only [List.set_cons_zero]))
  refine takeL (i := 2) rfl (by kernel_rfl) (by kernel_rfl) (by kernel_rfl) (fun _ _ _ _ h => h) hHeld ?_ (Or.inl ⟨by rfl, ?_⟩) ?_
  rotate_left
  · intro W hW
    (try dsimp only at hW)
    first | (go_simp; done) | (go_simp; with_reducible rfl)
  ((try simp only [Act.put]); (try simp only [List.setIfInBounds_toArray]); (try simp only [List.set_cons_succ]); (try simp only [List.set_cons_zero]))
  refine takeL (i := 3) rfl (by kernel_rfl) (by kernel_rfl) (by kernel_rfl) (fun _ _ _ _ h => h) hHeld ?_ (Or.inl ⟨by rfl, ?_⟩) ?_
  rotate_left
  · intro W hW
    (try dsimp only at hW)
    first | (go_simp; done) | (go_simp; with_reducible rfl)
  ((try simp only [Act.put]); (try simp only [List.setIfInBounds_toArray]); (try simp only [List.set_cons_succ]); (try simp only [List.set_cons_zero]))
  refine takeL (i := 4) rfl (by kernel_rfl) (by kernel_rfl) (by kernel_rfl) (fun _ _ _ _ h => h) hHeld ?_ (Or.inl ⟨by rfl, ?_⟩) ?_
  rotate_left
  · intro W hW
    (try dsimp only at hW)
    first | (go_simp; done) | (go_simp; with_reducible rfl)
  ((try simp only [Act.put]); (try simp only [List.setIfInBounds_toArray]); (try simp only [List.set_cons_succ]); (try simp only [List.set_cons_zero]))
  refine takeL (i := 5) rfl (by kernel_rfl) (by kernel_rfl) (by kernel_rfl) (fun _ _ _ _ h => h) hHeld ?_ (Or.inl ⟨by rfl, ?_⟩) ?_
  rotate_left
  · intro W hW
    (try dsimp only at hW)
    first | (go_simp; done) | (go_simp; with_reducible rfl)
  ((try simp only [Act.put]); (try simp only [List.setIfInBounds_toArray]); (try simp only [List.set_cons_succ]); (try simp only [List.set_cons_zero]))
  refine takeL (i := 6) rfl (by kernel_rfl) (by kernel_rfl) (by kernel_rfl) (fun _ _ _ _ h => h) hHeld ?_ (Or.inl ⟨by rfl, ?_⟩) ?_
  rotate_left
  · intro W hW
    (try dsimp only at hW)
    first | (go_simp; done) | (go_simp; with_reducible rfl)
  ((try simp only [Act.put]); (try simp only [List.setIfInBounds_toArray]); (try simp only [List.set_cons_succ]); (try simp only [List.set_cons_zero]))
  refine takeL (i := 8) rfl (by kernel_rfl) (by kernel_rfl) (by kernel_rfl) (fun _ _ _ _ h => h) hHeld ?_ (Or.inl ⟨by rfl, ?_⟩) ?_
  rotate_left
  · intro W hW
    (try dsimp only at hW)
    first | (go_simp; done) | (go_simp; with_reducible rfl)
  ((try simp only [Act.put]); (try simp only [List.setIfInBounds_toArray]); (try simp only [List.set_cons_succ]); (try simp only [List.set_cons_zero]))
  refine takeL (i := 9) rfl (by kernel_rfl) (by kernel_rfl) (by kernel_rfl) (fun _ _ _ _ h => h) hHeld ?_ (Or.inl ⟨by rfl, ?_⟩) ?_
  rotate_left
  · intro W hW
    (try dsimp only at hW)
    first | (go_simp; done) | (go_simp; with_reducible rfl)
  ((try simp only [Act.put]); (try simp only [List.setIfInBounds_toArray]); (try simp only [List.set_cons_succ]); (try simp only [List.set_cons_zero]))
  refine takeL (i := 10) rfl (by kernel_rfl) (by kernel_rfl) (by kernel_rfl) (fun _ _ _ _ h => h) hHeld ?_ (Or.inl ⟨by rfl, ?_⟩) ?_
  rotate_left
  · intro W hW
    (try dsimp only at hW)
    first | (go_simp; done) | (go_simp; with_reducible rfl)
  ((try simp only [Act.put]); (try simp only [List.setIfInBounds_toArray]); (try simp only [List.set_cons_succ]); (try simp only [List.set_cons_zero]))
  refine takeL (i := 11) rfl (by kernel_rfl) (by kernel_rfl) (by kernel_rfl) (fun _ _ _ _ h => h) hHeld ?_ (Or.inl ⟨by rfl, ?_⟩) ?_
  rotate_left
  · intro W hW
    (try dsimp only at hW)
    first | (go_simp; done) | (go_simp; with_reducible rfl)
  ((try simp only [Act.put]); (try simp only [List.setIfInBounds_toArray]); (try simp only [List.set_cons_succ]); (try simp only [List.set_cons_zero]))
  refine takeL (i := 12) rfl (by kernel_rfl) (by kernel_rfl) (by kernel_rfl) (fun _ _ _ _ h => h) hHeld ?_ (Or.inl ⟨by rfl, ?_⟩) ?_
  rotate_left
  · intro W hW
    (try dsimp only at hW)
    first | (go_simp; done) | (go_simp; with_reducible rfl)
  ((try simp only [Act.put]); (try simp only [List.setIfInBounds_toArray]); (try simp only [List.set_cons_succ]); (try simp only [List.set_cons_zero]))
  refine takeL (i := 13) rfl (by kernel_rfl) (by kernel_rfl) (by kernel_rfl) (fun _ _ _ _ h => h) hHeld ?_ (Or.inl ⟨by rfl, ?_⟩) ?_
  rotate_left
  · intro W hW
    (try dsimp only at hW)
    first | (go_simp; done) | (go_simp; with_reducible rfl)
  ((try simp only [Act.put]); (try simp only [List.setIfInBounds_toArray]); (try simp only [List.set_cons_succ]); (try simp only [List.set_cons_zero]))
  refine takeL (i := 14) rfl (by kernel_rfl) (by kernel_rfl) (by kernel_rfl) (fun _ _ _ _ h => h) hHeld ?_ (Or.inl ⟨by rfl, ?_⟩) ?_
  rotate_left
  · intro W hW
    (try dsimp only at hW)
    first | (go_simp; done) | (go_simp; with_reducible rfl)
  ((try simp only [Act.put]); (try simp only [List.setIfInBounds_toArray]); (try simp only [List.set_cons_succ]); (try simp only [List.set_cons_zero]))
  refine callL (i := 7) rfl (by kernel_rfl) (fun K hK => ?_)
  rw [if_pos (by rfl)]
  go_simp
  refine (hd1.out _ _ H).mono ?_
  rintro r w5 ⟨rfl, H5⟩
  have H' := H5
  clear H hHeld
  clear H5
  have H := H'
  clear H'
  refine hK.out _ _ ?_ (fun hHeld => ?_)
  · exact ⟨H.tail.cell (b := ob) (o := 1) (.here _ _) rfl, H.tail.cell (b := ob) (o := 2) (.here _ _) rfl, H.tail.cell (b := ob) (o := 3) (.here _ _) rfl⟩
  clear hK K
  ((try simp only [Act.put]); (try simp only [List.setIfInBounds_toArray]); (try simp only [List.set_cons_succ]); (try simp only [List.set_cons_zero]))
  refine callL (i := 15) rfl (by kernel_rfl) (fun K hK => ?_)
  rw [if_pos (by rfl)]
  go_simp
  refine (hd2.out _ _ _ H).mono ?_
  rintro r w6 ⟨rfl, H6⟩
  have H' := H6
  clear H hHeld
  clear H6
  have H := H'
  clear H'
  refine hK.out _ _ ?_ (fun hHeld => ?_)
  · exact ⟨H.tail.cell (b := ob) (o := 1) (.here _ _) rfl, H.tail.cell (b := ob) (o := 2) (.here _ _) rfl, H.tail.cell (b := ob) (o := 3) (.here _ _) rfl⟩
  clear hK K
  ((try simp only [Act.put]); (try simp only [List.setIfInBounds_toArray]); (try simp only [List.set_cons_succ]); (try simp only [List.set_cons_zero]))
  refine takeL (i := 16) rfl (by kernel_rfl) (by kernel_rfl) (by kernel_rfl) (fun _ _ _ _ h => h) hHeld ?_ (Or.inl ⟨by rfl, ?_⟩) ?_
  rotate_left
  · intro W hW
    (try dsimp only at hW)
    first | (go_simp; done) | (go_simp; with_reducible rfl)
  ((try simp only [Act.put]); (try simp only [List.setIfInBounds_toArray]); (try simp only [List.set_cons_succ]); (try simp only [List.set_cons_zero]))
  refine takeL (i := 17) rfl (by kernel_rfl) (by kernel_rfl) (by kernel_rfl) (fun _ _ _ _ h => h) hHeld ?_ (Or.inl ⟨by rfl, ?_⟩) ?_
  rotate_left
  · intro W hW
    (try dsimp only at hW)
    first | (go_simp; done) | (go_simp; with_reducible rfl)
  ((try simp only [Act.put]); (try simp only [List.setIfInBounds_toArray]); (try simp only [List.set_cons_succ]); (try simp only [List.set_cons_zero]))
  refine wpAnyH_done (by kernel_rfl) ?_ _
  clear hHeld hd1 hd2
  have hf2 := Lib.hid (hfin.out _ H)
  clear H hfin
  go_wp2_with fail
  go_ret2
  exact ⟨p, rfl, hf2.out⟩
set_option maxRecDepth 100000 in
set_option maxHeartbeats 8000000 in
theorem do_double (H : Bth p s y s L w) (ht : Tok 900000000 s.t) (x : OpI) (hop : ∀ V, SL V L → OpOk V x) (hk : x.kind = 3) :
    Calls Try.prog 23 #[ptrV p, ptrV y, .agg (opV x).toArray] w fun e w' => ∃ p', e = .returned (.tuple #[ptrV p', .bool true]) ∧ Bth p' (s.play x) y (s.play x) L w' := by
  have e : s.play x = s.dbl x.fr x.dst x.at' := by unfold NSt.play; simp [hk]
  rw [e]
  have hA := H.all
  obtain ⟨o1, o2, o3, o4, o5⟩ := hop w H.tail
  have hH := Lib.hid (H.alloc (opV x) 46)
  have hthe : (s.the x.fr x.dst x.at').length ≤ 1100 := by obtain ⟨N, hN, h⟩ := H; exact h.the_le _ _ _
  have hkey : s.has x.fr x.dst x.at' = true → (0 ≤ x.fr ∧ x.fr < (s.n : Int)) ∧ (0 ≤ x.dst ∧ x.dst < (s.n : Int)) := fun h1 => by
    obtain ⟨N, hN, h⟩ := H
    have h2 := of_decide_eq_true h1
    have h3 := h.key (k := (x.fr, x.dst)) (fun e => by rw [e] at h2; simp at h2; omega)
    exact ⟨⟨h3.1, h3.2.1⟩, h3.2.2.1, h3.2.2.2.1⟩
  have hd1 := Lib.hid (fun V L (h : Bth p s y s L V) => b_double1 h ht x.at' o1 o2)
  have hd2 := Lib.hid (fun V L s1 (h : Bth p s1 y s L V) => b_double2 h ht hA x.fr x.dst x.at' hthe hkey)
  obtain ⟨E, hE⟩ : ∃ E : Int, (if s.has x.fr x.dst x.at' = true then 0 else 170) = E := ⟨_, rfl⟩
  rw [hE] at hd1 hd2
  clear hE
  have hEE : (E == E) = true := by simp
  have hfin : Hid (∀ V, Bth p (s.dbl x.fr x.dst x.at') y (s.dbl x.fr x.dst x.at') (.blk w.heap.size (opV x) 46 :: L) V → Bth p (s.dbl x.fr x.dst x.at') y (s.dbl x.fr x.dst x.at') L V) := Lib.hid fun V h => h.re (.drop (.same _))
  clear H hop hA o1 o2 o3 o4 o5 e
  unfold opV inV at *
  generalize s.dbl x.fr x.dst x.at' = sd at *
  obtain ⟨kind, fr, dst, at', bit, bb⟩ := x
  dsimp only at *
  subst hk
  unfold ptrV at *
  go_enter Try.func23, Try.ntmps23
  go_upto_region 1 with (fail)
  generalize w.alloc (.cells [Value.int .i64 3, .int .i64 fr, .int .i64 dst, .int .i64 at', .int .i64 bit, .slice bb.g bb.bs.length bb.c].toArray 46) = w1 at *
  generalize w.heap.size = ob at *
  have c0 := hH.out.tail.cell (b := ob) (o := 0) (.here _ _) rfl
  go_upto_region 19 with (fail)
  clear c0
  refine wp_region_held_drew (S := (fun W => W.cell? ⟨ob, 1, none⟩ = some (.int .i64 fr) ∧ W.cell? ⟨ob, 2, none⟩ = some (.int .i64 dst) ∧ W.cell? ⟨ob, 3, none⟩ = some (.int .i64 at'))) (by kernel_rfl) ?_ (fun hHeld => ?_)
  · have H := hH.out.drew
    exact ⟨H.tail.cell (b := ob) (o := 1) (.here _ _) rfl, H.tail.cell (b := ob) (o := 2) (.here _ _) rfl, H.tail.cell (b := ob) (o := 3) (.here _ _) rfl⟩
  have H := hH.out.drew
  generalize World.drew w1 = w4 at *
  clear hH
  refine takeL (i := 0) rfl (by kernel_rfl) (by kernel_rfl) (by kernel_rfl) (fun _ _ _ _ h => h) hHeld ?_ (Or.inl ⟨by rfl, ?_⟩) ?_
  rotate_left
  · intro W hW
    (try dsimp only at hW)
    first | (go_simp; done) | (go_simp; with_reducible rfl)
  ((try simp only [Act.put]); (try simp only [List.setIfInBounds_toArray]); (try simp only [List.set_cons_succ]); (try simp only [List.set_cons_zero]))
  refine takeL (i := 1) rfl (by kernel_rfl) (by kernel_rfl) (by kernel_rfl) (fun _ _ _ _ h => h) hHeld ?_ (Or.inl ⟨by rfl, ?_⟩) ?_
  rotate_left
  · intro W hW
    (try dsimp only at hW)
    first | (go_simp; done) | (go_simp; with_reducible rfl)
  ((try simp only [Act.put]); (try simp only [List.setIfInBounds_toArray]); (try simp only [List.set_cons_succ]); (try simp only [List.set_cons_zero]))
  refine takeL (i := 2) rfl (by kernel_rfl) (by kernel_rfl) (by kernel_rfl) (fun _ _ _ _ h => h) hHeld ?_ (Or.inl ⟨by rfl, ?_⟩) ?_
  rotate_left
  · intro W hW
    (try dsimp only at hW)
    first | (go_simp; done) | (go_simp; with_reducible rfl)
  ((try simp only [Act.put]); (try simp only [List.setIfInBounds_toArray]); (try simp only [List.set_cons_succ]); (try simp only [List.set_cons_zero]))
  refine takeL (i := 3) rfl (by kernel_rfl) (by kernel_rfl) (by kernel_rfl) (fun _ _ _ _ h => h) hHeld ?_ (Or.inl ⟨by rfl, ?_⟩) ?_
  rotate_left
  · intro W hW
    (try dsimp only at hW)
    first | (go_simp; done) | (go_simp; with_reducible rfl)
  ((try simp only [Act.put]); (try simp only [List.setIfInBounds_toArray]); (try simp only [List.set_cons_succ]); (try simp only [List.set_cons_zero]))
  refine takeL (i := 4) rfl (by kernel_rfl) (by kernel_rfl) (by kernel_rfl) (fun _ _ _ _ h => h) hHeld ?_ (Or.inl ⟨by rfl, ?_⟩) ?_
  rotate_left
  · intro W hW
    (try dsimp only at hW)
    first | (go_simp; done) | (go_simp; with_reducible rfl)
  ((try simp only [Act.put]); (try simp only [List.setIfInBounds_toArray]); (try simp only [List.set_cons_succ]); (try simp only [List.set_cons_zero]))
  refine takeL (i := 5) rfl (by kernel_rfl) (by kernel_rfl) (by kernel_rfl) (fun _ _ _ _ h => h) hHeld ?_ (Or.inl ⟨by rfl, ?_⟩) ?_
  rotate_left
  · intro W hW
    (try dsimp only at hW)
    first | (go_simp; done) | (go_simp; with_reducible rfl)
  ((try simp only [Act.put]); (try simp only [List.setIfInBounds_toArray]); (try simp only [List.set_cons_succ]); (try simp only [List.set_cons_zero]))
  refine takeL (i := 6) rfl (by kernel_rfl) (by kernel_rfl) (by kernel_rfl) (fun _ _ _ _ h => h) hHeld ?_ (Or.inl ⟨by rfl, ?_⟩) ?_
  rotate_left
  · intro W hW
    (try dsimp only at hW)
    first | (go_simp; done) | (go_simp; with_reducible rfl)
  ((try simp only [Act.put]); (try simp only [List.setIfInBounds_toArray]); (try simp only [List.set_cons_succ]); (try simp only [List.set_cons_zero]))
  refine takeL (i := 8) rfl (by kernel_rfl) (by kernel_rfl) (by kernel_rfl) (fun _ _ _ _ h => h) hHeld ?_ (Or.inl ⟨by rfl, ?_⟩) ?_
  rotate_left
  · intro W hW
    (try dsimp only at hW)
    first | (go_simp; done) | (go_simp; with_reducible rfl)
  ((try simp only [Act.put]); (try simp only [List.setIfInBounds_toArray]); (try simp only [List.set_cons_succ]); (try simp only [List.set_cons_zero]))
  refine takeL (i := 9) rfl (by kernel_rfl) (by kernel_rfl) (by kernel_rfl) (fun _ _ _ _ h => h) hHeld ?_ (Or.inl ⟨by rfl, ?_⟩) ?_
  rotate_left
  · intro W hW
    (try dsimp only at hW)
    first | (go_simp; done) | (go_simp; with_reducible rfl)
  ((try simp only [Act.put]); (try simp only [List.setIfInBounds_toArray]); (try simp only [List.set_cons_succ]); (try simp only [List.set_cons_zero]))
  refine takeL (i := 10) rfl (by kernel_rfl) (by kernel_rfl) (by kernel_rfl) (fun _ _ _ _ h => h) hHeld ?_ (Or.inl ⟨by rfl, ?_⟩) ?_
  rotate_left
  · intro W hW
    (try dsimp only at hW)
    first | (go_simp; done) | (go_simp; with_reducible rfl)
  ((try simp only [Act.put]); (try simp only [List.setIfInBounds_toArray]); (try simp only [List.set_cons_succ]); (try simp only [List.set_cons_zero]))
  refine takeL (i := 11) rfl (by kernel_rfl) (by kernel_rfl) (by kernel_rfl) (fun _ _ _ _ h => h) hHeld ?_ (Or.inl ⟨by rfl, ?_⟩) ?_
  rotate_left
  · intro W hW
    (try dsimp only at hW)
    first | (go_simp; done) | (go_simp; with_reducible rfl)
  ((try simp only [Act.put]); (try simp only [List.setIfInBounds_toArray]); (try simp only [List.set_cons_succ]); (try simp only [List.set_cons_zero]))
  refine takeL (i := 12) rfl (by kernel_rfl) (by kernel_rfl) (by kernel_rfl) (fun _ _ _ _ h => h) hHeld ?_ (Or.inl ⟨by rfl, ?_⟩) ?_
  rotate_left
  · intro W hW
    (try dsimp only at hW)
    first | (go_simp; done) | (go_simp; with_reducible rfl)
  ((try simp only [Act.put]); (try simp only [List.setIfInBounds_toArray]); (try simp only [List.set_cons_succ]); (try simp only [List.set_cons_zero]))
  refine takeL (i := 13) rfl (by kernel_rfl) (by kernel_rfl) (by kernel_rfl) (fun _ _ _ _ h => h) hHeld ?_ (Or.inl ⟨by rfl, ?_⟩) ?_
  rotate_left
  · intro W hW
    (try dsimp only at hW)
    first | (go_simp; done) | (go_simp; with_reducible rfl)
  ((try simp only [Act.put]); (try simp only [List.setIfInBounds_toArray]); (try simp only [List.set_cons_succ]); (try simp only [List.set_cons_zero]))
  refine takeL (i := 14) rfl (by kernel_rfl) (by kernel_rfl) (by kernel_rfl) (fun _ _ _ _ h => h) hHeld ?_ (Or.inl ⟨by rfl, ?_⟩) ?_
  rotate_left
  · intro W hW
    (try dsimp only at hW)
    first | (go_simp; done) | (go_simp; with_reducible rfl)
  ((try simp only [Act.put]); (try simp only [List.setIfInBounds_toArray]); (try simp only [List.set_cons_succ]); (try simp only [List.set_cons_zero]))
  refine callL (i := 7) rfl (by kernel_rfl) (fun K hK => ?_)
  rw [if_pos (by rfl)]
  go_simp
  refine (hd1.out _ _ H).mono ?_
  rintro r w5 ⟨rfl, H5⟩
  have H' := H5
  clear H hHeld
  clear H5
  have H := H'
  clear H'
  refine hK.out _ _ ?_ (fun hHeld => ?_)
  · exact ⟨H.tail.cell (b := ob) (o := 1) (.here _ _) rfl, H.tail.cell (b := ob) (o := 2) (.here _ _) rfl, H.tail.cell (b := ob) (o := 3) (.here _ _) rfl⟩
  clear hK K
  ((try simp only [Act.put]); (try simp only [List.setIfInBounds_toArray]); (try simp only [List.set_cons_succ]); (try simp only [List.set_cons_zero]))
  refine callL (i := 15) rfl (by kernel_rfl) (fun K hK => ?_)
  rw [if_pos (by rfl)]
  go_simp
  refine (hd2.out _ _ _ H).mono ?_
  rintro r w6 ⟨rfl, H6⟩
  have H' := H6
  clear H hHeld
  clear H6
  have H := H'
  clear H'
  refine hK.out _ _ ?_ (fun hHeld => ?_)
  · exact ⟨H.tail.cell (b := ob) (o := 1) (.here _ _) rfl, H.tail.cell (b := ob) (o := 2) (.here _ _) rfl, H.tail.cell (b := ob) (o := 3) (.here _ _) rfl⟩
  clear hK K
  ((try simp only [Act.put]); (try simp only [List.setIfInBounds_toArray]); (try simp only [List.set_cons_succ]); (try simp only [List.set_cons_zero]))
  refine takeL (i := 16) rfl (by kernel_rfl) (by kernel_rfl) (by kernel_rfl) (fun _ _ _ _ h => h) hHeld ?_ (Or.inl ⟨by rfl, ?_⟩) ?_
  rotate_left
  · intro W hW
    (try dsimp only at hW)
    first | (go_simp; done) | (go_simp; with_reducible rfl)
  ((try simp only [Act.put]); (try simp only [List.setIfInBounds_toArray]); (try simp only [List.set_cons_succ]); (try simp only [List.set_cons_zero]))
  refine takeL (i := 17) rfl (by kernel_rfl) (by kernel_rfl) (by kernel_rfl) (fun _ _ _ _ h => h) hHeld ?_ (Or.inl ⟨by rfl, ?_⟩) ?_
  rotate_left
  · intro W hW
    (try dsimp only at hW)
    first | (go_simp; done) | (go_simp; with_reducible rfl)
  ((try simp only [Act.put]); (try simp only [List.setIfInBounds_toArray]); (try simp only [List.set_cons_succ]); (try simp only [List.set_cons_zero]))
  refine wpAnyH_done (by kernel_rfl) ?_ _
  clear hHeld hd1 hd2
  have hf2 := Lib.hid (hfin.out _ H)
  clear H hfin
  go_wp2_with fail
  go_ret2
  exact ⟨p, rfl, hf2.out⟩
set_option maxRecDepth 100000 in
set_option maxHeartbeats 8000000 in
theorem do_flip (H : Bth p s y s L w) (ht : Tok 900000000 s.t) (x : OpI) (hop : ∀ V, SL V L → OpOk V x) (hk : x.kind = 4) :
    Calls Try.prog 23 #[ptrV p, ptrV y, .agg (opV x).toArray] w fun e w' => ∃ p', e = .returned (.tuple #[ptrV p', .bool true]) ∧ Bth p' (s.play x) y (s.play x) L w' := by
  have e : s.play x = s.flp x.fr x.dst x.at' x.bit := by unfold NSt.play; simp [hk]
  rw [e]
  have hA := H.all
  obtain ⟨o1, o2, o3, o4, o5⟩ := hop w H.tail
  have hH := Lib.hid (H.alloc (opV x) 46)
  have hthe : (s.the x.fr x.dst x.at').length ≤ 1100 := by obtain ⟨N, hN, h⟩ := H; exact h.the_le _ _ _
  have hkey : s.has x.fr x.dst x.at' = true → (0 ≤ x.fr ∧ x.fr < (s.n : Int)) ∧ (0 ≤ x.dst ∧ x.dst < (s.n : Int)) := fun h1 => by
    obtain ⟨N, hN, h⟩ := H
    have h2 := of_decide_eq_true h1
    have h3 := h.key (k := (x.fr, x.dst)) (fun e => by rw [e] at h2; simp at h2; omega)
    exact ⟨⟨h3.1, h3.2.1⟩, h3.2.2.1, h3.2.2.2.1⟩
  have hd1 := Lib.hid (fun V L (h : Bth p s y s L V) => b_flip1 h ht x.at' o1 o2 o4)
  have hd2 := Lib.hid (fun V L s1 (h : Bth p s1 y s L V) => b_flip2 h ht hA x.fr x.dst x.at' x.bit hthe)
  obtain ⟨E, hE⟩ : ∃ E : Int, (if s.has x.fr x.dst x.at' = true ∧ 0 ≤ x.bit ∧ x.bit / 8 < (s.the x.fr x.dst x.at').length then 0 else 170) = E := ⟨_, rfl⟩
  rw [hE] at hd1 hd2
  clear hE
  have hEE : (E == E) = true := by simp
  have hfin : Hid (∀ V, Bth p (s.flp x.fr x.dst x.at' x.bit) y (s.flp x.fr x.dst x.at' x.bit) (.blk w.heap.size (opV x) 46 :: L) V → Bth p (s.flp x.fr x.dst x.at' x.bit) y (s.flp x.fr x.dst x.at' x.bit) L V) := Lib.hid fun V h => h.re (.drop (.same _))
  clear H hop hA o1 o2 o3 o4 o5 e
  unfold opV inV at *
  generalize s.flp x.fr x.dst x.at' x.bit = sd at *
  obtain ⟨kind, fr, dst, at', bit, bb⟩ := x
  dsimp only at *
  subst hk
  unfold ptrV at *
  go_enter Try.func23, Try.ntmps23
  go_upto_region 1 with (fail)
  generalize w.alloc (.cells [Value.int .i64 4, .int .i64 fr, .int .i64 dst, .int .i64 at', .int .i64 bit, .slice bb.g bb.bs.length bb.c].toArray 46) = w1 at *
  generalize w.heap.size = ob at *
  have c0 := hH.out.tail.cell (b := ob) (o := 0) (.here _ _) rfl
  go_upto_region 21 with (fail)
  clear c0
  refine wp_region_held_drew (S := (fun W => W.cell? ⟨ob, 1, none⟩ = some (.int .i64 fr) ∧ W.cell? ⟨ob, 2, none⟩ = some (.int .i64 dst) ∧ W.cell? ⟨ob, 3, none⟩ = some (.int .i64 at') ∧ W.cell? ⟨ob, 4, none⟩ = some (.int .i64 bit))) (by kernel_rfl) ?_ (fun hHeld => ?_)
  · have H := hH.out.drew
    exact ⟨H.tail.cell (b := ob) (o := 1) (.here _ _) rfl, H.tail.cell (b := ob) (o := 2) (.here _ _) rfl, H.tail.cell (b := ob) (o := 3) (.here _ _) rfl, H.tail.cell (b := ob) (o := 4) (.here _ _) rfl⟩
  have H := hH.out.drew
  generalize World.drew w1 = w4 at *
  clear hH
  refine takeL (i := 0) rfl (by kernel_rfl) (by kernel_rfl) (by kernel_rfl) (fun _ _ _ _ h => h) hHeld ?_ (Or.inl ⟨by rfl, ?_⟩) ?_
  rotate_left
  · intro W hW
    (try dsimp only at hW)
    first | (go_simp; done) | (go_simp; with_reducible rfl)
  ((try simp only [Act.put]); (try simp only [List.setIfInBounds_toArray]); (try simp only [List.set_cons_succ]); (try simp only [List.set_cons_zero]))
  refine takeL (i := 1) rfl (by kernel_rfl) (by kernel_rfl) (by kernel_rfl) (fun _ _ _ _ h => h) hHeld ?_ (Or.inl ⟨by rfl, ?_⟩) ?_
  rotate_left
  · intro W hW
    (try dsimp only at hW)
    first | (go_simp; done) | (go_simp; with_reducible rfl)
  ((try simp only [Act.put]); (try simp only [List.setIfInBounds_toArray]); (try simp only [List.set_cons_succ]); (try simp only [List.set_cons_zero]))
  refine takeL (i := 2) rfl (by kernel_rfl) (by kernel_rfl) (by kernel_rfl) (fun _ _ _ _ h => h) hHeld ?_ (Or.inl ⟨by rfl, ?_⟩) ?_
  rotate_left
  · intro W hW
    (try dsimp only at hW)
    first | (go_simp; done) | (go_simp; with_reducible rfl)
  ((try simp only [Act.put]); (try simp only [List.setIfInBounds_toArray]); (try simp only [List.set_cons_succ]); (try simp only [List.set_cons_zero]))
  refine takeL (i := 3) rfl (by kernel_rfl) (by kernel_rfl) (by kernel_rfl) (fun _ _ _ _ h => h) hHeld ?_ (Or.inl ⟨by rfl, ?_⟩) ?_
  rotate_left
  · intro W hW
    (try dsimp only at hW)
    first | (go_simp; done) | (go_simp; with_reducible rfl)
  ((try simp only [Act.put]); (try simp only [List.setIfInBounds_toArray]); (try simp only [List.set_cons_succ]); (try simp only [List.set_cons_zero]))
  refine takeL (i := 4) rfl (by kernel_rfl) (by kernel_rfl) (by kernel_rfl) (fun _ _ _ _ h => h) hHeld ?_ (Or.inl ⟨by rfl, ?_⟩) ?_
  rotate_left
  · intro W hW
    (try dsimp only at hW)
    first | (go_simp; done) | (go_simp; with_reducible rfl)
  ((try simp only [Act.put]); (try simp only [List.setIfInBounds_toArray]); (try simp only [List.set_cons_succ]); (try simp only [List.set_cons_zero]))
  refine takeL (i := 5) rfl (by kernel_rfl) (by kernel_rfl) (by kernel_rfl) (fun _ _ _ _ h => h) hHeld ?_ (Or.inl ⟨by rfl, ?_⟩) ?_
  rotate_left
  · intro W hW
    (try dsimp only at hW)
    first | (go_simp; done) | (go_simp; with_reducible rfl)
  ((try simp only [Act.put]); (try simp only [List.setIfInBounds_toArray]); (try simp only [List.set_cons_succ]); (try simp only [List.set_cons_zero]))
  refine takeL (i := 6) rfl (by kernel_rfl) (by kernel_rfl) (by kernel_rfl) (fun _ _ _ _ h => h) hHeld ?_ (Or.inl ⟨by rfl, ?_⟩) ?_
  rotate_left
  · intro W hW
    (try dsimp only at hW)
    first | (go_simp; done) | (go_simp; with_reducible rfl)
  ((try simp only [Act.put]); (try simp only [List.setIfInBounds_toArray]); (try simp only [List.set_cons_succ]); (try simp only [List.set_cons_zero]))
  refine takeL (i := 7) rfl (by kernel_rfl) (by kernel_rfl) (by kernel_rfl) (fun _ _ _ _ h => h) hHeld ?_ (Or.inl ⟨by rfl, ?_⟩) ?_
  rotate_left
  · intro W hW
    (try dsimp only at hW)
    first | (go_simp; done) | (go_simp; with_reducible rfl)
  ((try simp only [Act.put]); (try simp only [List.setIfInBounds_toArray]); (try simp only [List.set_cons_succ]); (try simp only [List.set_cons_zero]))
  refine takeL (i := 8) rfl (by kernel_rfl) (by kernel_rfl) (by kernel_rfl) (fun _ _ _ _ h => h) hHeld ?_ (Or.inl ⟨by rfl, ?_⟩) ?_
  rotate_left
  · intro W hW
    (try dsimp only at hW)
    first | (go_simp; done) | (go_simp; with_reducible rfl)
  ((try simp only [Act.put]); (try simp only [List.setIfInBounds_toArray]); (try simp only [List.set_cons_succ]); (try simp only [List.set_cons_zero]))
  refine takeL (i := 10) rfl (by kernel_rfl) (by kernel_rfl) (by kernel_rfl) (fun _ _ _ _ h => h) hHeld ?_ (Or.inl ⟨by rfl, ?_⟩) ?_
  rotate_left
  · intro W hW
    (try dsimp only at hW)
    first | (go_simp; done) | (go_simp; with_reducible rfl)
  ((try simp only [Act.put]); (try simp only [List.setIfInBounds_toArray]); (try simp only [List.set_cons_succ]); (try simp only [List.set_cons_zero]))
  refine takeL (i := 11) rfl (by kernel_rfl) (by kernel_rfl) (by kernel_rfl) (fun _ _ _ _ h => h) hHeld ?_ (Or.inl ⟨by rfl, ?_⟩) ?_
  rotate_left
  · intro W hW
    (try dsimp only at hW)
    first | (go_simp; done) | (go_simp; with_reducible rfl)
  ((try simp only [Act.put]); (try simp only [List.setIfInBounds_toArray]); (try simp only [List.set_cons_succ]); (try simp only [List.set_cons_zero]))
  refine takeL (i := 12) rfl (by kernel_rfl) (by kernel_rfl) (by kernel_rfl) (fun _ _ _ _ h => h) hHeld ?_ (Or.inl ⟨by rfl, ?_⟩) ?_
  rotate_left
  · intro W hW
    (try dsimp only at hW)
    first | (go_simp; done) | (go_simp; with_reducible rfl)
  ((try simp only [Act.put]); (try simp only [List.setIfInBounds_toArray]); (try simp only [List.set_cons_succ]); (try simp only [List.set_cons_zero]))
  refine takeL (i := 13) rfl (by kernel_rfl) (by kernel_rfl) (by kernel_rfl) (fun _ _ _ _ h => h) hHeld ?_ (Or.inl ⟨by rfl, ?_⟩) ?_
  rotate_left
  · intro W hW
    (try dsimp only at hW)
    first | (go_simp; done) | (go_simp; with_reducible rfl)
  ((try simp only [Act.put]); (try simp only [List.setIfInBounds_toArray]); (try simp only [List.set_cons_succ]); (try simp only [List.set_cons_zero]))
  refine takeL (i := 14) rfl (by kernel_rfl) (by kernel_rfl) (by kernel_rfl) (fun _ _ _ _ h => h) hHeld ?_ (Or.inl ⟨by rfl, ?_⟩) ?_
  rotate_left
  · intro W hW
    (try dsimp only at hW)
    first | (go_simp; done) | (go_simp; with_reducible rfl)
  ((try simp only [Act.put]); (try simp only [List.setIfInBounds_toArray]); (try simp only [List.set_cons_succ]); (try simp only [List.set_cons_zero]))
  refine takeL (i := 15) rfl (by kernel_rfl) (by kernel_rfl) (by kernel_rfl) (fun _ _ _ _ h => h) hHeld ?_ (Or.inl ⟨by rfl, ?_⟩) ?_
  rotate_left
  · intro W hW
    (try dsimp only at hW)
    first | (go_simp; done) | (go_simp; with_reducible rfl)
  ((try simp only [Act.put]); (try simp only [List.setIfInBounds_toArray]); (try simp only [List.set_cons_succ]); (try simp only [List.set_cons_zero]))
  refine takeL (i := 16) rfl (by kernel_rfl) (by kernel_rfl) (by kernel_rfl) (fun _ _ _ _ h => h) hHeld ?_ (Or.inl ⟨by rfl, ?_⟩) ?_
  rotate_left
  · intro W hW
    (try dsimp only at hW)
    first | (go_simp; done) | (go_simp; with_reducible rfl)
  ((try simp only [Act.put]); (try simp only [List.setIfInBounds_toArray]); (try simp only [List.set_cons_succ]); (try simp only [List.set_cons_zero]))
  refine takeL (i := 17) rfl (by kernel_rfl) (by kernel_rfl) (by kernel_rfl) (fun _ _ _ _ h => h) hHeld ?_ (Or.inl ⟨by rfl, ?_⟩) ?_
  rotate_left
  · intro W hW
    (try dsimp only at hW)
    first | (go_simp; done) | (go_simp; with_reducible rfl)
  ((try simp only [Act.put]); (try simp only [List.setIfInBounds_toArray]); (try simp only [List.set_cons_succ]); (try simp only [List.set_cons_zero]))
  refine takeL (i := 18) rfl (by kernel_rfl) (by kernel_rfl) (by kernel_rfl) (fun _ _ _ _ h => h) hHeld ?_ (Or.inl ⟨by rfl, ?_⟩) ?_
  rotate_left
  · intro W hW
    (try dsimp only at hW)
    first | (go_simp; done) | (go_simp; with_reducible rfl)
  ((try simp only [Act.put]); (try simp only [List.setIfInBounds_toArray]); (try simp only [List.set_cons_succ]); (try simp only [List.set_cons_zero]))
  refine callL (i := 9) rfl (by kernel_rfl) (fun K hK => ?_)
  rw [if_pos (by rfl)]
  go_simp
  refine (hd1.out _ _ H).mono ?_
  rintro r w5 ⟨rfl, H5⟩
  have H' := H5
  clear H hHeld
  clear H5
  have H := H'
  clear H'
  refine hK.out _ _ ?_ (fun hHeld => ?_)
  · exact ⟨H.tail.cell (b := ob) (o := 1) (.here _ _) rfl, H.tail.cell (b := ob) (o := 2) (.here _ _) rfl, H.tail.cell (b := ob) (o := 3) (.here _ _) rfl, H.tail.cell (b := ob) (o := 4) (.here _ _) rfl⟩
  clear hK K
  ((try simp only [Act.put]); (try simp only [List.setIfInBounds_toArray]); (try simp only [List.set_cons_succ]); (try simp only [List.set_cons_zero]))
  refine callL (i := 19) rfl (by kernel_rfl) (fun K hK => ?_)
  rw [if_pos (by rfl)]
  go_simp
  refine (hd2.out _ _ _ H).mono ?_
  rintro r w6 ⟨rfl, H6⟩
  have H' := H6
  clear H hHeld
  clear H6
  have H := H'
  clear H'
  refine hK.out _ _ ?_ (fun hHeld => ?_)
  · exact ⟨H.tail.cell (b := ob) (o := 1) (.here _ _) rfl, H.tail.cell (b := ob) (o := 2) (.here _ _) rfl, H.tail.cell (b := ob) (o := 3) (.here _ _) rfl, H.tail.cell (b := ob) (o := 4) (.here _ _) rfl⟩
  clear hK K
  ((try simp only [Act.put]); (try simp only [List.setIfInBounds_toArray]); (try simp only [List.set_cons_succ]); (try simp only [List.set_cons_zero]))
  refine takeL (i := 20) rfl (by kernel_rfl) (by kernel_rfl) (by kernel_rfl) (fun _ _ _ _ h => h) hHeld ?_ (Or.inl ⟨by rfl, ?_⟩) ?_
  rotate_left
  · intro W hW
    (try dsimp only at hW)
    first | (go_simp; done) | (go_simp; with_reducible rfl)
  ((try simp only [Act.put]); (try simp only [List.setIfInBounds_toArray]); (try simp only [List.set_cons_succ]); (try simp only [List.set_cons_zero]))
  refine takeL (i := 21) rfl (by kernel_rfl) (by kernel_rfl) (by kernel_rfl) (fun _ _ _ _ h => h) hHeld ?_ (Or.inl ⟨by rfl, ?_⟩) ?_
  rotate_left
  · intro W hW
    (try dsimp only at hW)
    first | (go_simp; done) | (go_simp; with_reducible rfl)
  ((try simp only [Act.put]); (try simp only [List.setIfInBounds_toArray]); (try simp only [List.set_cons_succ]); (try simp only [List.set_cons_zero]))
  refine wpAnyH_done (by kernel_rfl) ?_ _
  clear hHeld hd1 hd2
  have hf2 := Lib.hid (hfin.out _ H)
  clear H hfin
  go_wp2_with fail
  go_ret2
  exact ⟨p, rfl, hf2.out⟩
set_option maxRecDepth 100000 in
set_option maxHeartbeats 8000000 in
theorem do_len (H : Bth p s y s L w) (ht : Tok 900000000 s.t) (x : OpI) (hop : ∀ V, SL V L → OpOk V x) (hk : x.kind = 7) :
    Calls Try.prog 23 #[ptrV p, ptrV y, .agg (opV x).toArray] w fun e w' => ∃ p', e = .returned (.tuple #[ptrV p', .bool true]) ∧ Bth p' (s.play x) y (s.play x) L w' := by
  have e : s.play x = s := by unfold NSt.play; simp [hk]
  rw [e]
  have hA := H.all
  obtain ⟨o1, o2, o3, o4, o5⟩ := hop w H.tail
  have hH := Lib.hid (H.alloc (opV x) 46)
  have hd1 := Lib.hid (fun V L (h : Bth p s y s L V) => h.quiet1 fun L' h' => len_c h' x.fr x.dst)
  have hd2 := Lib.hid (fun V L s1 (h : Bth p s1 y s L V) => h.quiet2 fun L' h' => (rf_len h' hA x.fr x.dst).mono fun e w' ⟨a, b⟩ => ⟨a, b ▸ h'⟩)
  obtain ⟨E, hE⟩ : ∃ E : Int, ((s.F (x.fr, x.dst)).length : Int) = E := ⟨_, rfl⟩
  rw [hE] at hd1 hd2
  clear hE
  have hEE : (E == E) = true := by simp
  have hfin : Hid (∀ V, Bth p (s) y (s) (.blk w.heap.size (opV x) 46 :: L) V → Bth p (s) y (s) L V) := Lib.hid fun V h => h.re (.drop (.same _))
  clear H hop hA o1 o2 o3 o4 o5 e
  unfold opV inV at *
  obtain ⟨kind, fr, dst, at', bit, bb⟩ := x
  dsimp only at *
  subst hk
  unfold ptrV at *
  go_enter Try.func23, Try.ntmps23
  go_upto_region 1 with (fail)
  generalize w.alloc (.cells [Value.int .i64 7, .int .i64 fr, .int .i64 dst, .int .i64 at', .int .i64 bit, .slice bb.g bb.bs.length bb.c].toArray 46) = w1 at *
  generalize w.heap.size = ob at *
  have c0 := hH.out.tail.cell (b := ob) (o := 0) (.here _ _) rfl
  go_upto_region 34 with (fail)
  clear c0
  refine wp_region_held_drew (S := (fun W => W.cell? ⟨ob, 1, none⟩ = some (.int .i64 fr) ∧ W.cell? ⟨ob, 2, none⟩ = some (.int .i64 dst))) (by kernel_rfl) ?_ (fun hHeld => ?_)
  · have H := hH.out.drew
    exact ⟨H.tail.cell (b := ob) (o := 1) (.here _ _) rfl, H.tail.cell (b := ob) (o := 2) (.here _ _) rfl⟩
  have H := hH.out.drew
  generalize World.drew w1 = w4 at *
  clear hH
  refine takeL (i := 0) rfl (by kernel_rfl) (by kernel_rfl) (by kernel_rfl) (fun _ _ _ _ h => h) hHeld ?_ (Or.inl ⟨by rfl, ?_⟩) ?_
  rotate_left
  · intro W hW
    (try dsimp only at hW)
    first | (go_simp; done) | (go_simp; with_reducible rfl)
  ((try simp only [Act.put]); (try simp only [List.setIfInBounds_toArray]); (try simp only [List.set_cons_succ]); (try simp only [List.set_cons_zero]))
  refine takeL (i := 1) rfl (by kernel_rfl) (by kernel_rfl) (by kernel_rfl) (fun _ _ _ _ h => h) hHeld ?_ (Or.inl ⟨by rfl, ?_⟩) ?_
  rotate_left
  · intro W hW
    (try dsimp only at hW)
    first | (go_simp; done) | (go_simp; with_reducible rfl)
  ((try simp only [Act.put]); (try simp only [List.setIfInBounds_toArray]); (try simp only [List.set_cons_succ]); (try simp only [List.set_cons_zero]))
  refine takeL (i := 2) rfl (by kernel_rfl) (by kernel_rfl) (by kernel_rfl) (fun _ _ _ _ h => h) hHeld ?_ (Or.inl ⟨by rfl, ?_⟩) ?_
  rotate_left
  · intro W hW
    (try dsimp only at hW)
    first | (go_simp; done) | (go_simp; with_reducible rfl)
  ((try simp only [Act.put]); (try simp only [List.setIfInBounds_toArray]); (try simp only [List.set_cons_succ]); (try simp only [List.set_cons_zero]))
  refine takeL (i := 3) rfl (by kernel_rfl) (by kernel_rfl) (by kernel_rfl) (fun _ _ _ _ h => h) hHeld ?_ (Or.inl ⟨by rfl, ?_⟩) ?_
  rotate_left
  · intro W hW
    (try dsimp only at hW)
    first | (go_simp; done) | (go_simp; with_reducible rfl)
  ((try simp only [Act.put]); (try simp only [List.setIfInBounds_toArray]); (try simp only [List.set_cons_succ]); (try simp only [List.set_cons_zero]))
  refine takeL (i := 4) rfl (by kernel_rfl) (by kernel_rfl) (by kernel_rfl) (fun _ _ _ _ h => h) hHeld ?_ (Or.inl ⟨by rfl, ?_⟩) ?_
  rotate_left
  · intro W hW
    (try dsimp only at hW)
    first | (go_simp; done) | (go_simp; with_reducible rfl)
  ((try simp only [Act.put]); (try simp only [List.setIfInBounds_toArray]); (try simp only [List.set_cons_succ]); (try simp only [List.set_cons_zero]))
  refine takeL (i := 6) rfl (by kernel_rfl) (by kernel_rfl) (by kernel_rfl) (fun _ _ _ _ h => h) hHeld ?_ (Or.inl ⟨by rfl, ?_⟩) ?_
  rotate_left
  · intro W hW
    (try dsimp only at hW)
    first | (go_simp; done) | (go_simp; with_reducible rfl)
  ((try simp only [Act.put]); (try simp only [List.setIfInBounds_toArray]); (try simp only [List.set_cons_succ]); (try simp only [List.set_cons_zero]))
  refine takeL (i := 7) rfl (by kernel_rfl) (by kernel_rfl) (by kernel_rfl) (fun _ _ _ _ h => h) hHeld ?_ (Or.inl ⟨by rfl, ?_⟩) ?_
  rotate_left
  · intro W hW
    (try dsimp only at hW)
    first | (go_simp; done) | (go_simp; with_reducible rfl)
  ((try simp only [Act.put]); (try simp only [List.setIfInBounds_toArray]); (try simp only [List.set_cons_succ]); (try simp only [List.set_cons_zero]))
  refine takeL (i := 8) rfl (by kernel_rfl) (by kernel_rfl) (by kernel_rfl) (fun _ _ _ _ h => h) hHeld ?_ (Or.inl ⟨by rfl, ?_⟩) ?_
  rotate_left
  · intro W hW
    (try dsimp only at hW)
    first | (go_simp; done) | (go_simp; with_reducible rfl)
  ((try simp only [Act.put]); (try simp only [List.setIfInBounds_toArray]); (try simp only [List.set_cons_succ]); (try simp only [List.set_cons_zero]))
  refine takeL (i := 9) rfl (by kernel_rfl) (by kernel_rfl) (by kernel_rfl) (fun _ _ _ _ h => h) hHeld ?_ (Or.inl ⟨by rfl, ?_⟩) ?_
  rotate_left
  · intro W hW
    (try dsimp only at hW)
    first | (go_simp; done) | (go_simp; with_reducible rfl)
  ((try simp only [Act.put]); (try simp only [List.setIfInBounds_toArray]); (try simp only [List.set_cons_succ]); (try simp only [List.set_cons_zero]))
  refine takeL (i := 10) rfl (by kernel_rfl) (by kernel_rfl) (by kernel_rfl) (fun _ _ _ _ h => h) hHeld ?_ (Or.inl ⟨by rfl, ?_⟩) ?_
  rotate_left
  · intro W hW
    (try dsimp only at hW)
    first | (go_simp; done) | (go_simp; with_reducible rfl)
  ((try simp only [Act.put]); (try simp only [List.setIfInBounds_toArray]); (try simp only [List.set_cons_succ]); (try simp only [List.set_cons_zero]))
  refine callL (i := 5) rfl (by kernel_rfl) (fun K hK => ?_)
  rw [if_pos (by rfl)]
  go_simp
  refine (hd1.out _ _ H).mono ?_
  rintro r w5 ⟨rfl, H5⟩
  have H' := H5
  clear H hHeld
  clear H5
  have H := H'
  clear H'
  refine hK.out _ _ ?_ (fun hHeld => ?_)
  · exact ⟨H.tail.cell (b := ob) (o := 1) (.here _ _) rfl, H.tail.cell (b := ob) (o := 2) (.here _ _) rfl⟩
  clear hK K
  ((try simp only [Act.put]); (try simp only [List.setIfInBounds_toArray]); (try simp only [List.set_cons_succ]); (try simp only [List.set_cons_zero]))
  refine callL (i := 11) rfl (by kernel_rfl) (fun K hK => ?_)
  rw [if_pos (by rfl)]
  go_simp
  refine (hd2.out _ _ _ H).mono ?_
  rintro r w6 ⟨rfl, H6⟩
  have H' := H6
  clear H hHeld
  clear H6
  have H := H'
  clear H'
  refine hK.out _ _ ?_ (fun hHeld => ?_)
  · exact ⟨H.tail.cell (b := ob) (o := 1) (.here _ _) rfl, H.tail.cell (b := ob) (o := 2) (.here _ _) rfl⟩
  clear hK K
  ((try simp only [Act.put]); (try simp only [List.setIfInBounds_toArray]); (try simp only [List.set_cons_succ]); (try simp only [List.set_cons_zero]))
  refine takeL (i := 12) rfl (by kernel_rfl) (by kernel_rfl) (by kernel_rfl) (fun _ _ _ _ h => h) hHeld ?_ (Or.inl ⟨by rfl, ?_⟩) ?_
  rotate_left
  · intro W hW
    (try dsimp only at hW)
    first | (go_simp; done) | (go_simp; with_reducible rfl)
  ((try simp only [Act.put]); (try simp only [List.setIfInBounds_toArray]); (try simp only [List.set_cons_succ]); (try simp only [List.set_cons_zero]))
  refine takeL (i := 13) rfl (by kernel_rfl) (by kernel_rfl) (by kernel_rfl) (fun _ _ _ _ h => h) hHeld ?_ (Or.inl ⟨by rfl, ?_⟩) ?_
  rotate_left
  · intro W hW
    (try dsimp only at hW)
    first | (go_simp; done) | (go_simp; with_reducible rfl)
  ((try simp only [Act.put]); (try simp only [List.setIfInBounds_toArray]); (try simp only [List.set_cons_succ]); (try simp only [List.set_cons_zero]))
  refine wpAnyH_done (by kernel_rfl) ?_ _
  clear hHeld hd1 hd2
  have hf2 := Lib.hid (hfin.out _ H)
  clear H hfin
  go_wp2_with fail
  go_ret2
  exact ⟨p, rfl, hf2.out⟩
end
end Go.Proofs.Ytnkahibddhchlaa
