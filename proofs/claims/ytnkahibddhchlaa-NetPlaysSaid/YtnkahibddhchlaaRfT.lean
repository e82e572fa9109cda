/- The walk of do: Send. -/
import Derived.Test.YtnkahibddhchlaaRfS
namespace Go.Proofs.Ytnkahibddhchlaa
open Go.RowKit Go.Shelf
set_option linter.unusedVariables false

theorem own_prefix {V : World} {R : List Pc} {v : Option Addr} {n c : Nat} {bs : List Int} (H : SL V (.own 5 1 (.slice v (n + 1) c) (n + 1) (bv bs ++ [.int .u8 7]) :: R)) (hn : bs.length = n) : ∃ g, v = some ⟨g, 0, none⟩ ∧ n + 1 ≤ c ∧ RdB V (some ⟨g, 0, none⟩) bs ∧ RdB V (some ⟨g, 0, none⟩) (bs ++ [7]) := by
  have h : OwnK V 0 5 1 (.slice v (n + 1) c) (n + 1) (bv bs ++ [.int .u8 7]) := H.head
  rcases h.form with ⟨e, _⟩ | ⟨g, cap, e, _, _, h4, _, h6, h7, h8⟩
  · cases e
  · cases e
    have h9 : RdB V (some ⟨g, 0, none⟩) (bs ++ [7]) := RdB.of_rd fun i hi => ⟨g, 0, rfl, by
      have hi' : i < (n + 1) * 1 := by rw [← h6]; simpa [bv] using hi
      rw [Nat.zero_add, h7 i hi', show bv bs ++ [.int .u8 7] = bv (bs ++ [7]) by simp [bv]]⟩
    refine ⟨g, rfl, h4, fun i hi => ?_, h9⟩
    obtain ⟨b, o, e1, e2⟩ := h9 i (by simp; omega)
    refine ⟨b, o, e1, ?_⟩
    rw [e2]
    simp [List.getD_eq_getElem?_getD, List.getElem?_append_left hi]
section
variable {p y : Nat} {s : NSt} {L : List Pc} {w : World}
set_option maxRecDepth 100000 in
set_option maxHeartbeats 8000000 in
theorem do_send (H : Bth p s y s L w) (ht : Tok 900000000 s.t) (x : OpI) (hop : ∀ V, SL V L → OpOk V x) (hk : x.kind = 0) (hbl : x.b.bs.length ≤ 1100) :
    Calls Try.prog 23 #[ptrV p, ptrV y, .agg (opV x).toArray] w fun e w' => ∃ p', e = .returned (.tuple #[ptrV p', .bool true]) ∧ Bth p' (s.play x) y (s.play x) L w' := by
  have e : s.play x = (s.send x.fr x.dst x.b.bs).2 := by unfold NSt.play; simp [hk]
  rw [e]
  have hA := H.all
  obtain ⟨o1, o2, o3, o4, o5⟩ := hop w H.tail
  have hin : Hid (∀ V A, SL V (A ++ L) → RdB V x.b.g x.b.bs ∧ (x.b.g = none → x.b.c = 0) ∧ (x.b.g = none → x.b.bs = [])) := Lib.hid fun V A h => by
    have h2 := (hop V (h.re (re_right A _))).b
    exact ⟨h2.rd, h2.nil, h2.empty⟩
  have hH := Lib.hid (H.alloc (opV x) 46)
  have hfin : Hid (∀ V q, Bth p ((s.send x.fr x.dst x.b.bs).2) y ((s.send x.fr x.dst x.b.bs).2) (q :: .blk w.heap.size (opV x) 46 :: L) V → Bth p ((s.send x.fr x.dst x.b.bs).2) y ((s.send x.fr x.dst x.b.bs).2) L V) := Lib.hid fun V q h => h.re (.drop (.drop (.same _)))
  have hd1 := Lib.hid (fun V L sa sc (h : Bth p s y s L V) hr => b_send1 h ht o1 o2 sa sc x.b.bs hr)
  have hd2 := Lib.hid (fun V L s1 sa sc (h : Bth p s1 y s L V) hr => b_send2 h ht hA x.fr x.dst sa sc x.b.bs hbl hr)
  have hstr := Lib.hid (str_7 x.b.bs)
  obtain ⟨E, hE⟩ : ∃ E, (s.send x.fr x.dst x.b.bs).1 = E := ⟨_, rfl⟩
  rw [hE] at hd1 hd2
  have hEE : (E == E) = true := by simp
  obtain ⟨sd, hsd⟩ : ∃ sd, (s.send x.fr x.dst x.b.bs).2 = sd := ⟨_, rfl⟩
  rw [hsd] at hd1 hd2 hfin ⊢
  clear H hop hA o1 o2 o3 o4 o5 e hE hsd
  unfold opV inV at *
  obtain ⟨kind, fr, dst, at', bit, ⟨g, c, bs⟩⟩ := x
  dsimp only at *
  subst hk
  obtain ⟨n, hn⟩ : ∃ n, bs.length = n := ⟨_, rfl⟩
  have hn' := Lib.hid hn
  have htw := Lib.hid (fun V L s1 s2 (h : Bth p s1 y s2 L V) hr hnl => b_twin h bs g c (by omega) hr hnl)
  rw [hn] at hbl hd1 hd2 htw hfin hH ⊢
  clear hn
  unfold ptrV at *
  go_enter Try.func23, Try.ntmps23
  go_upto_region 1 with (fail)
  generalize w.alloc (.cells [Value.int .i64 0, .int .i64 fr, .int .i64 dst, .int .i64 at', .int .i64 bit, .slice g n c].toArray 46) = w1 at *
  generalize w.heap.size = ob at *
  have c0 := hH.out.tail.cell (b := ob) (o := 0) (.here _ _) rfl
  have c5 := hH.out.tail.cell (b := ob) (o := 5) (.here _ _) rfl
  have htw2 := Lib.hid (htw.out _ _ _ _ hH.out (hin.out _ [_] hH.out.tail).1 (hin.out _ [_] hH.out.tail).2.1)
  clear htw hH
  go_wp2_with fail
  refine htw2.out.mono ?_
  rintro e w2 ⟨a1, c1, rfl, H2⟩
  clear htw2 c0 c5
  obtain ⟨N, hN, m, xs, h1, ok, hF⟩ := H2
  have hHN := Lib.hid (show SL w2 ((netP p m s.n s.room s.t xs ++ N) ++ .own 5 1 (.slice a1 n c1) n (bv bs) :: .blk ob [.int .i64 0, .int .i64 fr, .int .i64 dst, .int .i64 at', .int .i64 bit, .slice g n c] 46 :: L) from by rw [List.append_assoc]; exact h1)
  have hback : Hid (∀ V X, SL V ((netP p m s.n s.room s.t xs ++ N) ++ X) → Bth p s y s X V) := Lib.hid fun V X h => ⟨N, hN, m, xs, by rw [← List.append_assoc]; exact h, ok, hF⟩
  clear h1 hN ok hF
  generalize netP p m s.n s.room s.t xs ++ N = M at *
  go_wp2_with (
    at_builtin
    refine sl_app (hHN.out.alloc [.int .u8 7] 5) rfl _ _ _ rfl elemB _ rfl (.there (pull_mid _ _ _)) [.int .u8 7] rfl rfl (rd_newK _ _ _) (by simp [Value.oneCell']) (by simp only [maxLen]; omega) (by omega) (fun h => by cases h) ?_
    intro v' w3 H3 hnil
    obtain ⟨a3, c3, rfl, -⟩ := OwnK.slice H3.head
    have hH4 := Lib.hid (hback.out w3 (.own 5 1 (.slice a3 (n + 1) c3) (n + 1) (bv bs ++ [.int .u8 7]) :: .blk ob [.int .i64 0, .int .i64 fr, .int .i64 dst, .int .i64 at', .int .i64 bit, .slice g n c] 46 :: L) ((H3.re (.step (.here _ _) (.drop (.same _)))).perm List.perm_middle.symm))
    clear hnil H3 hHN hback)
  obtain ⟨gb, rfl, hcap, -, -⟩ := own_prefix hH4.out.tail hn'.out
  have hpre := Lib.hid (fun V R (h : SL V (.own 5 1 (.slice (some ⟨gb, 0, none⟩) (n + 1) c3) (n + 1) (bv bs ++ [.int .u8 7]) :: R)) => (show RdB V (some ⟨gb, 0, none⟩) bs ∧ RdB V (some ⟨gb, 0, none⟩) (bs ++ [7]) from by
    obtain ⟨g', e, -, h1, h2⟩ := own_prefix h hn'.out
    cases e
    exact ⟨h1, h2⟩))
  have hncap : n ≤ c3 := by omega
  refine wp_region_held_drew (S := (fun W => W.cell? ⟨ob, 1, none⟩ = some (.int .i64 fr) ∧ W.cell? ⟨ob, 2, none⟩ = some (.int .i64 dst) ∧ W.cell? ⟨ob, 5, none⟩ = some (.slice g n c))) (by kernel_rfl) ?_ (fun hHeld => ?_)
  · have H := hH4.out.drew
    exact ⟨H.tail.cell (b := ob) (o := 1) (.there (.here _ _)) rfl, H.tail.cell (b := ob) (o := 2) (.there (.here _ _)) rfl, H.tail.cell (b := ob) (o := 5) (.there (.here _ _)) rfl⟩
  have H := hH4.out.drew
  generalize World.drew w3 = w4 at *
  clear hH4
  refine takeL (i := 0) rfl (by kernel_rfl) (by kernel_rfl) (by kernel_rfl) (fun _ _ _ _ h => h) hHeld ?_ (Or.inl ⟨by rfl, ?_⟩) ?_
  rotate_left
  · intro W hW
    (try dsimp only at hW)
    first | (go_simp; done) | (go_simp; with_reducible rfl)
  ((try simp only [Act.put]); (try simp only [List.setIfInBounds_toArray]); (try simp only [List.set_cons_succ]); (try simp only [List.set_cons_zero]))
  refine takeL (i := 1) rfl (by kernel_rfl) (by kernel_rfl) (by kernel_rfl) (fun _ _ _ _ h => h) hHeld ?_ (Or.inl ⟨by rfl, ?_⟩) ?_
  rotate_left
  · intro W hW
    (try dsimp only at hW)
    first | (go_simp; done) | (go_simp; with_reducible rfl)
  ((try simp only [Act.put]); (try simp only [List.setIfInBounds_toArray]); (try simp only [List.set_cons_succ]); (try simp only [List.set_cons_zero]))
  refine takeL (i := 2) rfl (by kernel_rfl) (by kernel_rfl) (by kernel_rfl) (fun _ _ _ _ h => h) hHeld ?_ (Or.inl ⟨by rfl, ?_⟩) ?_
  rotate_left
  · intro W hW
    (try dsimp only at hW)
    first | (go_simp; done) | (go_simp; with_reducible rfl)
  ((try simp only [Act.put]); (try simp only [List.setIfInBounds_toArray]); (try simp only [List.set_cons_succ]); (try simp only [List.set_cons_zero]))
  refine takeL (i := 3) rfl (by kernel_rfl) (by kernel_rfl) (by kernel_rfl) (fun _ _ _ _ h => h) hHeld ?_ (Or.inl ⟨by rfl, ?_⟩) ?_
  rotate_left
  · intro W hW
    (try dsimp only at hW)
    first | (go_simp; done) | (go_simp; with_reducible rfl)
  ((try simp only [Act.put]); (try simp only [List.setIfInBounds_toArray]); (try simp only [List.set_cons_succ]); (try simp only [List.set_cons_zero]))
  refine takeL (i := 4) rfl (by kernel_rfl) (by kernel_rfl) (by kernel_rfl) (fun _ _ _ _ h => h) hHeld ?_ (Or.inl ⟨by rfl, ?_⟩) ?_
  rotate_left
  · intro W hW
    (try dsimp only at hW)
    first | (go_simp; done) | (go_simp; with_reducible rfl)
  ((try simp only [Act.put]); (try simp only [List.setIfInBounds_toArray]); (try simp only [List.set_cons_succ]); (try simp only [List.set_cons_zero]))
  refine takeL (i := 5) rfl (by kernel_rfl) (by kernel_rfl) (by kernel_rfl) (fun _ _ _ _ h => h) hHeld ?_ (Or.inl ⟨by rfl, ?_⟩) ?_
  rotate_left
  · intro W hW
    (try dsimp only at hW)
    first | (go_simp; done) | (go_simp; with_reducible rfl)
  ((try simp only [Act.put]); (try simp only [List.setIfInBounds_toArray]); (try simp only [List.set_cons_succ]); (try simp only [List.set_cons_zero]))
  refine takeL (i := 6) rfl (by kernel_rfl) (by kernel_rfl) (by kernel_rfl) (fun _ _ _ _ h => h) hHeld ?_ (Or.inl ⟨by rfl, ?_⟩) ?_
  rotate_left
  · intro W hW
    (try dsimp only at hW)
    first | (go_simp; done) | (go_simp; with_reducible rfl)
  ((try simp only [Act.put]); (try simp only [List.setIfInBounds_toArray]); (try simp only [List.set_cons_succ]); (try simp only [List.set_cons_zero]))
  refine takeL (i := 7) rfl (by kernel_rfl) (by kernel_rfl) (by kernel_rfl) (fun _ _ _ _ h => h) hHeld ?_ (Or.inl ⟨by rfl, ?_⟩) ?_
  rotate_left
  · intro W hW
    (try dsimp only at hW)
    first | (go_simp; done) | (go_simp; with_reducible rfl)
  ((try simp only [Act.put]); (try simp only [List.setIfInBounds_toArray]); (try simp only [List.set_cons_succ]); (try simp only [List.set_cons_zero]))
  refine takeL (i := 8) rfl (by kernel_rfl) (by kernel_rfl) (by kernel_rfl) (fun _ _ _ _ h => h) hHeld ?_ (Or.inl ⟨by rfl, ?_⟩) ?_
  rotate_left
  · intro W hW
    (try dsimp only at hW)
    first | (go_simp; done) | (go_simp; with_reducible rfl)
  ((try simp only [Act.put]); (try simp only [List.setIfInBounds_toArray]); (try simp only [List.set_cons_succ]); (try simp only [List.set_cons_zero]))
  refine takeL (i := 9) rfl (by kernel_rfl) (by kernel_rfl) (by kernel_rfl) (fun _ _ _ _ h => h) hHeld ?_ (Or.inl ⟨by rfl, ?_⟩) ?_
  rotate_left
  · intro W hW
    (try dsimp only at hW)
    first | (go_simp; done) | (go_simp; with_reducible rfl)
  ((try simp only [Act.put]); (try simp only [List.setIfInBounds_toArray]); (try simp only [List.set_cons_succ]); (try simp only [List.set_cons_zero]))
  refine callL (i := 10) rfl (by kernel_rfl) (fun K hK => ?_)
  rw [if_pos (by rfl)]
  go_simp
  refine (hd1.out _ _ (some ⟨gb, 0, none⟩) c3 H (fun V h => ⟨(hpre.out V _ h).1, fun h => by cases h⟩)).mono ?_
  rintro r w5 ⟨rfl, H5⟩
  have H' := H5
  clear H hHeld
  clear H5
  have H := H'
  clear H'
  refine hK.out _ _ ?_ (fun hHeld => ?_)
  · exact ⟨H.tail.cell (b := ob) (o := 1) (.there (.here _ _)) rfl, H.tail.cell (b := ob) (o := 2) (.there (.here _ _)) rfl, H.tail.cell (b := ob) (o := 5) (.there (.here _ _)) rfl⟩
  clear hK K
  ((try simp only [Act.put]); (try simp only [List.setIfInBounds_toArray]); (try simp only [List.set_cons_succ]); (try simp only [List.set_cons_zero]))
  refine takeL (i := 11) rfl (by kernel_rfl) (by kernel_rfl) (by kernel_rfl) (fun _ _ _ _ h => h) hHeld ?_ (Or.inl ⟨by rfl, ?_⟩) ?_
  rotate_left
  · intro W hW
    (try dsimp only at hW)
    first | (go_simp; done) | (go_simp; with_reducible rfl)
  ((try simp only [Act.put]); (try simp only [List.setIfInBounds_toArray]); (try simp only [List.set_cons_succ]); (try simp only [List.set_cons_zero]))
  refine wpAnyH_done (by kernel_rfl) ?_ _
  clear hHeld hd1
  have d1 := H.tail.cell (b := ob) (o := 1) (.there (.here _ _)) rfl
  have d2 := H.tail.cell (b := ob) (o := 2) (.there (.here _ _)) rfl
  have d5 := H.tail.cell (b := ob) (o := 5) (.there (.here _ _)) rfl
  have hs2 := Lib.hid (hd2.out _ _ _ g c H (fun V h => by obtain ⟨h1, h2, -⟩ := hin.out V [_, _] h; exact ⟨h1, h2⟩))
  clear H hd2
  go_wp2_with fail
  refine hs2.out.mono ?_
  rintro e w6 ⟨rfl, H⟩
  clear hs2 d1 d2 d5
  have d5 := H.tail.cell (b := ob) (o := 5) (.there (.here _ _)) rfl
  have hst1 := run_str c3 (hpre.out _ _ H.tail).2 (fun h => by cases h)
  have hst2 := run_str c (hin.out _ [_, _] H.tail).1 (hin.out _ [_, _] H.tail).2.2
  rw [hn'.out] at hst2
  rw [hstr.out, List.length_append, hn'.out, List.length_singleton] at hst1
  have hss := strOfNums_size bs
  rw [hn'.out] at hss
  generalize strOfNums bs = S at *
  have hss2 : S.size ≤ 1100 := by omega
  have hH := Lib.hid H
  clear H hpre hin hstr
  go_upto_region 7 with (fail)
  clear hst1 hst2 d5 hss hss2
  go_wp2_with fail
  go_loopw [68] (fun i V => ∃ (j : Nat) (xs : List Value), j ≤ n + 1 ∧ i = .int .i64 j ∧ Hid (xs.length = n + 1 ∧ Bth p sd y sd (.own 5 1 (.slice (some ⟨gb, 0, none⟩) (n + 1) c3) (n + 1) xs :: .blk ob [.int .i64 0, .int .i64 fr, .int .i64 dst, .int .i64 at', .int .i64 bit, .slice g n c] 46 :: L) V)) (fun i _ => n + 1 - (intOf i).toNat)
  case atStart => exact ⟨0, _, by omega, rfl, Lib.hid ⟨by simp [bv, hn'.out], hH.out⟩⟩
  case round =>
    clear hH
    obtain ⟨j, xs, hj, rfl, hR⟩ := hrel
    by_cases hjn : j < n + 1
    · obtain ⟨hx, HB⟩ := hR.out
      obtain ⟨cb, fb⟩ := own_cell (show OwnK wr 0 5 1 (.slice (some ⟨gb, 0, none⟩) (n + 1) c3) (n + 1) xs from HB.tail.head) hjn
      have hR2 : Hid ((xs.set j (.int .u8 99)).length = n + 1 ∧ Bth p sd y sd (.own 5 1 (.slice (some ⟨gb, 0, none⟩) (n + 1) c3) (n + 1) (xs.set j (.int .u8 99)) :: .blk ob [.int .i64 0, .int .i64 fr, .int .i64 dst, .int .i64 at', .int .i64 bit, .slice g n c] 46 :: L) (wr.setCell ⟨gb, j, none⟩ (.int .u8 99))) := Lib.hid ⟨by rw [List.length_set]; exact hx, HB.map fun N h => (own_store (h.perm List.perm_middle) j (.int .u8 99)).perm List.perm_middle.symm⟩
      generalize xs.getD j undef = ux at *
      clear hR HB hx
      go_wp2_with fail
      go_roundw
      case rel => exact ⟨j + 1, _, by omega, by go_num, hR2⟩
      case measure => (simp [intOf]; try omega)
    · obtain rfl : j = n + 1 := by omega
      have hf2 := Lib.hid (hfin.out _ _ hR.out.2)
      clear hR hfin
      go_wp2_with fail
      go_ret2
      exact ⟨p, rfl, hf2.out⟩
end
end Go.Proofs.Ytnkahibddhchlaa
