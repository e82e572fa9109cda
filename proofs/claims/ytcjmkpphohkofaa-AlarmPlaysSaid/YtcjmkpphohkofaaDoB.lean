/- The walk of do: kinds 5 to 8, and none. Printed by gendob.py. -/
import Derived.Test.YtcjmkpphohkofaaDoA
namespace Go.Proofs.Ytcjmkpphohkofaa
open Go.RowKit Go.Shelf
set_option linter.unusedVariables false

section
variable {R : Int} {p y : Nat} {s : Ck} {L : List Pc} {w : World}
theorem Bth.numbers {s2 : Ck} {l : List Int} {n ca cb : Nat} {a b : Option Addr} (hn : n ≤ 1000000) (H : Bth R p s y s2 (.own 30 1 (.slice b n cb) n (uv l) :: .own 30 1 (.slice a n ca) n (uv l) :: L) w) :
    Calls Try.prog 19 #[.slice a n ca, .slice b n cb] w fun e w' => e = .returned (.bool true) ∧ Bth R p s y s2 L w' := by
  obtain ⟨v, now, sl, ol, hS, h1, h2⟩ := H
  have hS2 := (hS.re (re_right _ _)).re (re_right _ _)
  obtain ⟨b1, c1, e1, hl, hc1, hr1⟩ := own_u64 hS2
  obtain ⟨b2, c2, e2, -, hc2, hr2⟩ := own_u64 hS2.tail
  simp only [Value.slice.injEq] at e1 e2
  obtain ⟨rfl, -, rfl⟩ := e1
  obtain ⟨rfl, -, rfl⟩ := e2
  subst hl
  refine (numbers_c l hn _ _ _ _ w hr2 hr1 hc2 hc1).mono ?_
  rintro e w' ⟨rfl, hk⟩
  exact ⟨rfl, Bth.re (show Bth R p s y s2 (_ :: _ :: L) w' from ⟨v, now, sl, ol, hS.quiet hk, h1, h2⟩) (.drop (.drop (.same _)))⟩
theorem next_c (H : CAt R p s L w) :
    Calls Try.prog 17 #[ptrV p] w fun e w' => e = .returned (.tuple #[.int .i64 (if s.l = [] then 0 else leastK s.b s.l), .bool (decide (0 < s.l.length))]) ∧ CAt R p s L w' := by
  by_cases hl : s.l = []
  · rw [if_pos hl, hl]
    refine (next_no H hl).mono ?_
    rintro e w' ⟨rfl, rfl⟩
    exact ⟨rfl, H⟩
  · rw [if_neg hl, decide_eq_true (List.length_pos_iff.2 hl)]
    exact next_yes H hl
set_option maxRecDepth 100000 in
set_option maxHeartbeats 8000000 in
theorem do_told (H : Bth R p s y s L w) (h0 : 0 ≤ R) (hR : R ≤ 999999000) (x : OpI) (hx : OpOk x) (hk : x.kind = 5) :
    Calls Try.prog 23 #[ptrV p, ptrV y, .agg (opV x).toArray] w fun e w' => ∃ q s', e = .returned (.tuple #[ptrV q, .bool true]) ∧ Bth (R + 120) q s' y s' L w' := by
  have hkk := hx.key
  have hok := Lib.hid H.ok
  have hH := Lib.hid (H.alloc (opV x) 39)
  have hl1 := Lib.hid (fun V L (h : Bth R p s y s L V) => h.out1 (Int.le_refl R) fun L' h' => left_c h' x.key)
  have hl2 := Lib.hid (fun V L (h : Bth R p s y s L V) => h.out2 (Int.le_refl R) fun L' h' => rleft_c h' x.key)
  have hd1 := Lib.hid (fun V L (h : Bth R p s y s L V) => h.out1 (Int.le_refl R) fun L' h' => rung_c h' x.key)
  have hd2 := Lib.hid (fun V L (h : Bth R p s y s L V) => h.out2 (Int.le_refl R) fun L' h' => (rrung_c h' x.key).mono fun e w' ⟨a, b⟩ => (⟨a, b ▸ h'⟩ : _ ∧ RF R y s L' w'))
  obtain ⟨E, hE⟩ : ∃ E : Int, (theK s.l x.key).left = E := ⟨_, rfl⟩
  obtain ⟨b, hb⟩ : ∃ b : Bool, decide (0 < E) = b := ⟨_, rfl⟩
  obtain ⟨Z, hZ⟩ : ∃ Z : Int, (theK s.l x.key).rung = Z := ⟨_, rfl⟩
  rw [hE, hb] at hl1 hl2
  rw [hZ] at hd1 hd2
  clear hE hb hZ
  have hEE : (E == E) = true := by simp
  have hbb : (b == b) = true := by simp
  have hZZ : (Z == Z) = true := by simp
  have hfin : Hid (∀ V, Bth R p s y s (.blk w.heap.size (opV x) 39 :: L) V → Bth (R + 120) p s y s L V) := Lib.hid fun V h => (h.re (.drop (.same _))).mono (by omega)
  clear H hx hkk h0 hR
  unfold opV at *
  obtain ⟨kind, ky, nn⟩ := x
  dsimp only at *
  subst hk
  unfold ptrV at *
  go_enter Try.func23, Try.ntmps23
  go_upto_region 1 with (fail)
  generalize w.alloc (.cells [Value.int .i64 5, .int .u64 ky, .int .i64 nn].toArray 39) = w1 at *
  generalize w.heap.size = ob at *
  have c0 := hH.out.tail.cell (b := ob) (o := 0) (.here _ _) rfl
  have c1 := hH.out.tail.cell (b := ob) (o := 1) (.here _ _) rfl
  go_wp2_with fail
  refine (hl1.out _ _ hH.out).mono ?_
  rintro e w2 ⟨rfl, H2⟩
  clear c0 c1 hH hl1
  have c1 := H2.tail.cell (b := ob) (o := 1) (.here _ _) rfl
  have hl3 := Lib.hid (hl2.out _ _ H2)
  clear H2 hl2
  go_wp2_with fail
  refine hl3.out.mono ?_
  rintro e w3 ⟨rfl, H3⟩
  have hH := Lib.hid H3
  clear H3 hl3 c1
  go_upto_region 20 with (fail)
  refine wp_region_held_drew (S := (fun W => W.cell? ⟨ob, 1, none⟩ = some (.int .u64 ky))) (by kernel_rfl) ?_ (fun hHeld => ?_)
  · have H := hH.out.drew
    exact H.tail.cell (b := ob) (o := 1) (.here _ _) rfl
  have H := hH.out.drew
  generalize World.drew w3 = w4 at *
  clear hH
  refine takeL (i := 0) rfl (by kernel_rfl) (by kernel_rfl) (by kernel_rfl) (fun _ _ _ _ h => h) hHeld ?_ (Or.inl ⟨by rfl, ?_⟩) ?_
  rotate_left
  · intro W hW
    (try dsimp only at hW)
    first | (go_simp; done) | (go_simp; with_reducible rfl)
  ((try simp only [Act.put]); (try simp only [List.setIfInBounds_toArray]); (try simp only [List.set_cons_succ]); (try simp only [List.set_cons_zero]))
  refine takeL (i := 1) rfl (by kernel_rfl) (by kernel_rfl) (by kernel_rfl) (fun _ _ _ _ h => h) hHeld ?_ (Or.inl ⟨by rfl, ?_⟩) ?_
  rotate_left
  · intro W hW
    (try dsimp only at hW)
    first | (go_simp; done) | (go_simp; with_reducible rfl)
  ((try simp only [Act.put]); (try simp only [List.setIfInBounds_toArray]); (try simp only [List.set_cons_succ]); (try simp only [List.set_cons_zero]))
  refine takeL (i := 2) rfl (by kernel_rfl) (by kernel_rfl) (by kernel_rfl) (fun _ _ _ _ h => h) hHeld ?_ (Or.inl ⟨by rfl, ?_⟩) ?_
  rotate_left
  · intro W hW
    (try dsimp only at hW)
    first | (go_simp; done) | (go_simp; with_reducible rfl)
  ((try simp only [Act.put]); (try simp only [List.setIfInBounds_toArray]); (try simp only [List.set_cons_succ]); (try simp only [List.set_cons_zero]))
  refine takeL (i := 3) rfl (by kernel_rfl) (by kernel_rfl) (by kernel_rfl) (fun _ _ _ _ h => h) hHeld ?_ (Or.inl ⟨by rfl, ?_⟩) ?_
  rotate_left
  · intro W hW
    (try dsimp only at hW)
    first | (go_simp; done) | (go_simp; with_reducible rfl)
  ((try simp only [Act.put]); (try simp only [List.setIfInBounds_toArray]); (try simp only [List.set_cons_succ]); (try simp only [List.set_cons_zero]))
  refine takeL (i := 4) rfl (by kernel_rfl) (by kernel_rfl) (by kernel_rfl) (fun _ _ _ _ h => h) hHeld ?_ (Or.inl ⟨by rfl, ?_⟩) ?_
  rotate_left
  · intro W hW
    (try dsimp only at hW)
    first | (go_simp; done) | (go_simp; with_reducible rfl)
  ((try simp only [Act.put]); (try simp only [List.setIfInBounds_toArray]); (try simp only [List.set_cons_succ]); (try simp only [List.set_cons_zero]))
  refine takeL (i := 5) rfl (by kernel_rfl) (by kernel_rfl) (by kernel_rfl) (fun _ _ _ _ h => h) hHeld ?_ (Or.inl ⟨by rfl, ?_⟩) ?_
  rotate_left
  · intro W hW
    (try dsimp only at hW)
    first | (go_simp; done) | (go_simp; with_reducible rfl)
  ((try simp only [Act.put]); (try simp only [List.setIfInBounds_toArray]); (try simp only [List.set_cons_succ]); (try simp only [List.set_cons_zero]))
  refine takeL (i := 6) rfl (by kernel_rfl) (by kernel_rfl) (by kernel_rfl) (fun _ _ _ _ h => h) hHeld ?_ (Or.inl ⟨by rfl, ?_⟩) ?_
  rotate_left
  · intro W hW
    (try dsimp only at hW)
    first | (go_simp; done) | (go_simp; with_reducible rfl)
  ((try simp only [Act.put]); (try simp only [List.setIfInBounds_toArray]); (try simp only [List.set_cons_succ]); (try simp only [List.set_cons_zero]))
  refine takeL (i := 7) rfl (by kernel_rfl) (by kernel_rfl) (by kernel_rfl) (fun _ _ _ _ h => h) hHeld ?_ (Or.inl ⟨by rfl, ?_⟩) ?_
  rotate_left
  · intro W hW
    (try dsimp only at hW)
    first | (go_simp; done) | (go_simp; with_reducible rfl)
  ((try simp only [Act.put]); (try simp only [List.setIfInBounds_toArray]); (try simp only [List.set_cons_succ]); (try simp only [List.set_cons_zero]))
  refine takeL (i := 8) rfl (by kernel_rfl) (by kernel_rfl) (by kernel_rfl) (fun _ _ _ _ h => h) hHeld ?_ (Or.inl ⟨by rfl, ?_⟩) ?_
  rotate_left
  · intro W hW
    (try dsimp only at hW)
    first | (go_simp; done) | (go_simp; with_reducible rfl)
  ((try simp only [Act.put]); (try simp only [List.setIfInBounds_toArray]); (try simp only [List.set_cons_succ]); (try simp only [List.set_cons_zero]))
  refine takeL (i := 9) rfl (by kernel_rfl) (by kernel_rfl) (by kernel_rfl) (fun _ _ _ _ h => h) hHeld ?_ (Or.inl ⟨by rfl, ?_⟩) ?_
  rotate_left
  · intro W hW
    (try dsimp only at hW)
    first | (go_simp; done) | (go_simp; with_reducible rfl)
  ((try simp only [Act.put]); (try simp only [List.setIfInBounds_toArray]); (try simp only [List.set_cons_succ]); (try simp only [List.set_cons_zero]))
  refine takeL (i := 10) rfl (by kernel_rfl) (by kernel_rfl) (by kernel_rfl) (fun _ _ _ _ h => h) hHeld ?_ (Or.inl ⟨by rfl, ?_⟩) ?_
  rotate_left
  · intro W hW
    (try dsimp only at hW)
    first | (go_simp; done) | (go_simp; with_reducible rfl)
  ((try simp only [Act.put]); (try simp only [List.setIfInBounds_toArray]); (try simp only [List.set_cons_succ]); (try simp only [List.set_cons_zero]))
  refine takeL (i := 11) rfl (by kernel_rfl) (by kernel_rfl) (by kernel_rfl) (fun _ _ _ _ h => h) hHeld ?_ (Or.inl ⟨by rfl, ?_⟩) ?_
  rotate_left
  · intro W hW
    (try dsimp only at hW)
    first | (go_simp; done) | (go_simp; with_reducible rfl)
  ((try simp only [Act.put]); (try simp only [List.setIfInBounds_toArray]); (try simp only [List.set_cons_succ]); (try simp only [List.set_cons_zero]))
  refine takeL (i := 12) rfl (by kernel_rfl) (by kernel_rfl) (by kernel_rfl) (fun _ _ _ _ h => h) hHeld ?_ (Or.inl ⟨by rfl, ?_⟩) ?_
  rotate_left
  · intro W hW
    (try dsimp only at hW)
    first | (go_simp; done) | (go_simp; with_reducible rfl)
  ((try simp only [Act.put]); (try simp only [List.setIfInBounds_toArray]); (try simp only [List.set_cons_succ]); (try simp only [List.set_cons_zero]))
  refine takeL (i := 14) rfl (by kernel_rfl) (by kernel_rfl) (by kernel_rfl) (fun _ _ _ _ h => h) hHeld ?_ (Or.inl ⟨by rfl, ?_⟩) ?_
  rotate_left
  · intro W hW
    (try dsimp only at hW)
    first | (go_simp; done) | (go_simp; with_reducible rfl)
  ((try simp only [Act.put]); (try simp only [List.setIfInBounds_toArray]); (try simp only [List.set_cons_succ]); (try simp only [List.set_cons_zero]))
  refine takeL (i := 15) rfl (by kernel_rfl) (by kernel_rfl) (by kernel_rfl) (fun _ _ _ _ h => h) hHeld ?_ (Or.inl ⟨by rfl, ?_⟩) ?_
  rotate_left
  · intro W hW
    (try dsimp only at hW)
    first | (go_simp; done) | (go_simp; with_reducible rfl)
  ((try simp only [Act.put]); (try simp only [List.setIfInBounds_toArray]); (try simp only [List.set_cons_succ]); (try simp only [List.set_cons_zero]))
  refine takeL (i := 16) rfl (by kernel_rfl) (by kernel_rfl) (by kernel_rfl) (fun _ _ _ _ h => h) hHeld ?_ (Or.inl ⟨by rfl, ?_⟩) ?_
  rotate_left
  · intro W hW
    (try dsimp only at hW)
    first | (go_simp; done) | (go_simp; with_reducible rfl)
  ((try simp only [Act.put]); (try simp only [List.setIfInBounds_toArray]); (try simp only [List.set_cons_succ]); (try simp only [List.set_cons_zero]))
  refine callL (i := 13) rfl (by kernel_rfl) (fun K hK => ?_)
  rw [if_pos (by rfl)]
  go_simp
  refine (hd1.out _ _ H).mono ?_
  rintro r w5 ⟨rfl, H5⟩
  have H' := H5
  clear H hHeld
  clear H5
  have H := H'
  clear H'
  refine hK.out _ _ ?_ (fun hHeld => ?_)
  · exact H.tail.cell (b := ob) (o := 1) (.here _ _) rfl
  clear hK K
  ((try simp only [Act.put]); (try simp only [List.setIfInBounds_toArray]); (try simp only [List.set_cons_succ]); (try simp only [List.set_cons_zero]))
  refine callL (i := 17) rfl (by kernel_rfl) (fun K hK => ?_)
  rw [if_pos (by rfl)]
  go_simp
  refine (hd2.out _ _ H).mono ?_
  rintro r w6 ⟨rfl, H6⟩
  have H' := H6
  clear H hHeld
  clear H6
  have H := H'
  clear H'
  refine hK.out _ _ ?_ (fun hHeld => ?_)
  · exact H.tail.cell (b := ob) (o := 1) (.here _ _) rfl
  clear hK K
  ((try simp only [Act.put]); (try simp only [List.setIfInBounds_toArray]); (try simp only [List.set_cons_succ]); (try simp only [List.set_cons_zero]))
  refine takeL (i := 18) rfl (by kernel_rfl) (by kernel_rfl) (by kernel_rfl) (fun _ _ _ _ h => h) hHeld ?_ (Or.inl ⟨by rfl, ?_⟩) ?_
  rotate_left
  · intro W hW
    (try dsimp only at hW)
    first | (go_simp; done) | (go_simp; with_reducible rfl)
  ((try simp only [Act.put]); (try simp only [List.setIfInBounds_toArray]); (try simp only [List.set_cons_succ]); (try simp only [List.set_cons_zero]))
  refine takeL (i := 19) rfl (by kernel_rfl) (by kernel_rfl) (by kernel_rfl) (fun _ _ _ _ h => h) hHeld ?_ (Or.inl ⟨by rfl, ?_⟩) ?_
  rotate_left
  · intro W hW
    (try dsimp only at hW)
    first | (go_simp; done) | (go_simp; with_reducible rfl)
  ((try simp only [Act.put]); (try simp only [List.setIfInBounds_toArray]); (try simp only [List.set_cons_succ]); (try simp only [List.set_cons_zero]))
  refine takeL (i := 20) rfl (by kernel_rfl) (by kernel_rfl) (by kernel_rfl) (fun _ _ _ _ h => h) hHeld ?_ (Or.inl ⟨by rfl, ?_⟩) ?_
  rotate_left
  · intro W hW
    (try dsimp only at hW)
    first | (go_simp; done) | (go_simp; with_reducible rfl)
  ((try simp only [Act.put]); (try simp only [List.setIfInBounds_toArray]); (try simp only [List.set_cons_succ]); (try simp only [List.set_cons_zero]))
  refine takeL (i := 21) rfl (by kernel_rfl) (by kernel_rfl) (by kernel_rfl) (fun _ _ _ _ h => h) hHeld ?_ (Or.inl ⟨by rfl, ?_⟩) ?_
  rotate_left
  · intro W hW
    (try dsimp only at hW)
    first | (go_simp; done) | (go_simp; with_reducible rfl)
  ((try simp only [Act.put]); (try simp only [List.setIfInBounds_toArray]); (try simp only [List.set_cons_succ]); (try simp only [List.set_cons_zero]))
  refine wpAnyH_done (by kernel_rfl) ?_ _
  clear hHeld hd1 hd2
  have hf2 := Lib.hid (hfin.out _ H)
  clear H hfin
  go_wp2_with fail
  go_ret2
  exact ⟨p, _, rfl, hf2.out⟩
set_option maxRecDepth 100000 in
set_option maxHeartbeats 8000000 in
theorem do_keys (H : Bth R p s y s L w) (h0 : 0 ≤ R) (hR : R ≤ 999999000) (x : OpI) (hx : OpOk x) (hk : x.kind = 6) :
    Calls Try.prog 23 #[ptrV p, ptrV y, .agg (opV x).toArray] w fun e w' => ∃ q s', e = .returned (.tuple #[ptrV q, .bool true]) ∧ Bth (R + 120) q s' y s' L w' := by
  have hkk := hx.key
  have hok := Lib.hid H.ok
  have hH := Lib.hid (H.alloc (opV x) 39)
  have hl1 := Lib.hid (fun V L (h : Bth R p s y s L V) => h.sl1 (Int.le_refl R) fun L' h' => keys_c h')
  have hl2 := Lib.hid (fun V L (h : Bth R p s y s L V) => h.sl2 (Int.le_refl R) fun L' h' => rkeys_c h')
  have hn : s.l.length ≤ 1000000 := by have := hok.out.len; omega
  obtain ⟨n, hn'⟩ : ∃ n, s.l.length = n := ⟨_, rfl⟩
  rw [hn'] at hl1 hl2 hn
  clear hn'
  have hfin : Hid (∀ V, Bth R p s y s (.blk w.heap.size (opV x) 39 :: L) V → Bth (R + 120) p s y s L V) := Lib.hid fun V h => (h.re (.drop (.same _))).mono (by omega)
  clear H hx hkk h0 hR
  unfold opV at *
  obtain ⟨kind, ky, nn⟩ := x
  dsimp only at *
  subst hk
  unfold ptrV at *
  go_enter Try.func23, Try.ntmps23
  go_upto_region 1 with (fail)
  generalize w.alloc (.cells [Value.int .i64 6, .int .u64 ky, .int .i64 nn].toArray 39) = w1 at *
  generalize w.heap.size = ob at *
  have c0 := hH.out.tail.cell (b := ob) (o := 0) (.here _ _) rfl
  go_wp2_with fail
  refine (hl1.out _ _ hH.out).mono ?_
  rintro e w2 ⟨a2, d2, rfl, H2⟩
  clear c0 hH hl1
  have hl3 := Lib.hid (hl2.out _ _ H2)
  clear H2 hl2
  go_wp2_with fail
  refine hl3.out.mono ?_
  rintro e w3 ⟨a3, d3, rfl, H3⟩
  have hnu := Lib.hid (H3.numbers hn)
  clear H3 hl3
  go_wp2_with fail
  refine hnu.out.mono ?_
  rintro e w4 ⟨rfl, H4⟩
  have hf2 := Lib.hid (hfin.out _ H4)
  clear H4 hfin hnu
  go_wp2_with fail
  go_ret2
  exact ⟨p, _, rfl, hf2.out⟩
set_option maxRecDepth 100000 in
set_option maxHeartbeats 8000000 in
theorem do_next (H : Bth R p s y s L w) (h0 : 0 ≤ R) (hR : R ≤ 999999000) (x : OpI) (hx : OpOk x) (hk : x.kind = 7) :
    Calls Try.prog 23 #[ptrV p, ptrV y, .agg (opV x).toArray] w fun e w' => ∃ q s', e = .returned (.tuple #[ptrV q, .bool true]) ∧ Bth (R + 120) q s' y s' L w' := by
  have hkk := hx.key
  have hok := Lib.hid H.ok
  have hH := Lib.hid (H.alloc (opV x) 39)
  have hl1 := Lib.hid (fun V L (h : Bth R p s y s L V) => h.out1 (Int.le_refl R) fun L' h' => next_c h')
  have hl2 := Lib.hid (fun V L (h : Bth R p s y s L V) => h.out2 (Int.le_refl R) fun L' h' => rnext_c h')
  obtain ⟨E, hE⟩ : ∃ E : Int, (if s.l = [] then 0 else leastK s.b s.l) = E := ⟨_, rfl⟩
  obtain ⟨b, hb⟩ : ∃ b : Bool, decide (0 < s.l.length) = b := ⟨_, rfl⟩
  rw [hE, hb] at hl1 hl2
  clear hE hb
  have hEE : (E == E) = true := by simp
  have hbb : (b == b) = true := by simp
  have hfin : Hid (∀ V, Bth R p s y s (.blk w.heap.size (opV x) 39 :: L) V → Bth (R + 120) p s y s L V) := Lib.hid fun V h => (h.re (.drop (.same _))).mono (by omega)
  clear H hx hkk h0 hR
  unfold opV at *
  obtain ⟨kind, ky, nn⟩ := x
  dsimp only at *
  subst hk
  unfold ptrV at *
  go_enter Try.func23, Try.ntmps23
  go_upto_region 1 with (fail)
  generalize w.alloc (.cells [Value.int .i64 7, .int .u64 ky, .int .i64 nn].toArray 39) = w1 at *
  generalize w.heap.size = ob at *
  have c0 := hH.out.tail.cell (b := ob) (o := 0) (.here _ _) rfl
  go_wp2_with fail
  refine (hl1.out _ _ hH.out).mono ?_
  rintro e w2 ⟨rfl, H2⟩
  clear c0 hH hl1
  have hl3 := Lib.hid (hl2.out _ _ H2)
  clear H2 hl2
  go_wp2_with fail
  refine hl3.out.mono ?_
  rintro e w3 ⟨rfl, H3⟩
  have hf2 := Lib.hid (hfin.out _ H3)
  clear H3 hl3 hfin
  go_wp2_with fail
  go_ret2
  exact ⟨p, _, rfl, hf2.out⟩
set_option maxRecDepth 100000 in
set_option maxHeartbeats 8000000 in
theorem do_copy (H : Bth R p s y s L w) (h0 : 0 ≤ R) (hR : R ≤ 999999000) (x : OpI) (hx : OpOk x) (hk : x.kind = 8) :
    Calls Try.prog 23 #[ptrV p, ptrV y, .agg (opV x).toArray] w fun e w' => ∃ q s', e = .returned (.tuple #[ptrV q, .bool true]) ∧ Bth (R + 120) q s' y s' L w' := by
  have hkk := hx.key
  have hok := Lib.hid H.ok
  have hH := Lib.hid (H.alloc (opV x) 39)
  have hl1 := Lib.hid hH.out.copy
  have hl2 := Lib.hid (fun V L (h : Bth R p s y s L V) => h.sl1 (show R ≤ R + 1 by omega) fun L' h' => tick_c h' (by omega))
  have hl3 := Lib.hid (fun k V L s1 (h : Bth (R + 1) p s1 y s L V) => h.out1 (Int.le_refl _) fun L' h' => calm_c h' k)
  have hl4 := Lib.hid (fun k V L s1 (h : Bth (R + 1) p s1 y s L V) => h.out1 (S := belowS s1 k) (Int.le_refl _) fun L' h' => below_c h' k)
  have hfin2 : Hid (∀ V s1 q sl', Bth (R + 1) p s1 y s (ckP q sl' s ++ (.blk w.heap.size (opV x) 39 :: L)) V → Bth (R + 120) q s y s L V) := Lib.hid fun V s1 q sl' h => ((h.swap (hok.out.mono (by omega))).re (.drop (.same _))).mono (by omega)
  have hfin : Hid (∀ V, Bth R p s y s (.blk w.heap.size (opV x) 39 :: L) V → Bth (R + 120) p s y s L V) := Lib.hid fun V h => (h.re (.drop (.same _))).mono (by omega)
  clear H hx hkk
  unfold opV at *
  obtain ⟨kind, ky, nn⟩ := x
  dsimp only at *
  subst hk
  unfold ptrV at *
  go_enter Try.func23, Try.ntmps23
  go_upto_region 1 with (fail)
  generalize w.alloc (.cells [Value.int .i64 8, .int .u64 ky, .int .i64 nn].toArray 39) = w1 at *
  generalize w.heap.size = ob at *
  have c0 := hH.out.tail.cell (b := ob) (o := 0) (.here _ _) rfl
  go_wp2_with fail
  refine hl1.out.mono ?_
  rintro e w2 ⟨q, sl', rfl, H2⟩
  have hl5 := Lib.hid (hl2.out _ _ H2)
  clear c0 hH hl1 H2 hl2
  unfold ptrV at *
  go_wp2_with fail
  refine hl5.out.mono ?_
  rintro e w3 ⟨a3, d3, rfl, H3⟩
  have hH3 := Lib.hid (H3.re (.drop (.same _)))
  have c1 := hH3.out.tail.tail.tail.cell (b := ob) (o := 1) (.here _ _) rfl
  clear H3 hl5
  go_wp2_with fail
  refine (hl3.out _ _ _ _ hH3.out).mono ?_
  rintro e w4 ⟨rfl, H4⟩
  clear hH3 hl3 c1
  have c1 := H4.tail.tail.tail.cell (b := ob) (o := 1) (.here _ _) rfl
  have hH4 := Lib.hid H4
  clear H4
  go_wp2_with fail
  refine (hl4.out _ _ _ _ hH4.out).mono ?_
  rintro e w5 ⟨rfl, H5⟩
  have hf2 := Lib.hid (hfin2.out _ _ _ _ H5)
  clear H5 hfin hfin2 hl4 hH4 c1
  go_wp2_with fail
  go_ret2
  exact ⟨q, _, rfl, hf2.out⟩
set_option maxRecDepth 100000 in
set_option maxHeartbeats 8000000 in
theorem do_none (H : Bth R p s y s L w) (h0 : 0 ≤ R) (hR : R ≤ 999999000) (x : OpI) (hx : OpOk x) (hk : x.kind ≠ 0 ∧ x.kind ≠ 1 ∧ x.kind ≠ 2 ∧ x.kind ≠ 3 ∧ x.kind ≠ 4 ∧ x.kind ≠ 5 ∧ x.kind ≠ 6 ∧ x.kind ≠ 7 ∧ x.kind ≠ 8 ∧ x.kind ≠ 9) :
    Calls Try.prog 23 #[ptrV p, ptrV y, .agg (opV x).toArray] w fun e w' => ∃ q s', e = .returned (.tuple #[ptrV q, .bool true]) ∧ Bth (R + 120) q s' y s' L w' := by
  have hkk := hx.key
  have hok := Lib.hid H.ok
  have hH := Lib.hid (H.alloc (opV x) 39)

  have hfin : Hid (∀ V, Bth R p s y s (.blk w.heap.size (opV x) 39 :: L) V → Bth (R + 120) p s y s L V) := Lib.hid fun V h => (h.re (.drop (.same _))).mono (by omega)
  clear H hx hkk h0 hR
  unfold opV at *
  obtain ⟨kind, ky, nn⟩ := x
  dsimp only at *
  obtain ⟨k0, k1, k2, k3, k4, k5, k6, k7, k8, k9⟩ := hk
  have b0 : (kind == 0) = false := by simpa using k0
  clear k0
  have b1 : (kind == 1) = false := by simpa using k1
  clear k1
  have b2 : (kind == 2) = false := by simpa using k2
  clear k2
  have b3 : (kind == 3) = false := by simpa using k3
  clear k3
  have b4 : (kind == 4) = false := by simpa using k4
  clear k4
  have b5 : (kind == 5) = false := by simpa using k5
  clear k5
  have b6 : (kind == 6) = false := by simpa using k6
  clear k6
  have b7 : (kind == 7) = false := by simpa using k7
  clear k7
  have b8 : (kind == 8) = false := by simpa using k8
  clear k8
  have b9 : (kind == 9) = false := by simpa using k9
  clear k9
  unfold ptrV at *
  go_enter Try.func23, Try.ntmps23
  go_upto_region 1 with (fail)
  generalize w.alloc (.cells [Value.int .i64 kind, .int .u64 ky, .int .i64 nn].toArray 39) = w1 at *
  generalize w.heap.size = ob at *
  have c0 := hH.out.tail.cell (b := ob) (o := 0) (.here _ _) rfl
  have hf2 := Lib.hid (hfin.out _ hH.out)
  clear hfin hH
  go_wp2_with fail
  go_ret2
  exact ⟨p, _, rfl, hf2.out⟩
end
end Go.Proofs.Ytcjmkpphohkofaa
