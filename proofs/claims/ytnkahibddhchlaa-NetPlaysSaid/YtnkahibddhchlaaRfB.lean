/- The reference's Twin, come, Send, New. -/
import Derived.Test.YtnkahibddhchlaaRfA
import Derived.Test.YtnkahibddhchlaaOrderApp
namespace Go.Proofs.Ytnkahibddhchlaa
open Go.RowKit
set_option linter.unusedVariables false

theorem twin_c (l : List Int) (a : Option Addr) (c : Nat) (w : World) {L : List Pc} (H : SL w L) (hl : l.length ≤ 1000000) (hr : RdB w a l) (hn : a = none → c = 0) :
    Calls Try.prog 38 #[.slice a l.length c] w fun e w' => ∃ a' c', e = .returned (.slice a' l.length c') ∧ SL w' (.own 5 1 (.slice a' l.length c') l.length (bv l) :: L) := by
  have hH := Lib.hid (H.pure (q := .own 5 1 (.slice none 0 0) 0 []) (OwnK.nil _ _ _ _) fun b h => by cases h)
  have hr' := Lib.hid hr
  obtain ⟨n, hn'⟩ : ∃ n, l.length = n := ⟨_, rfl⟩
  have hn2 := Lib.hid hn'
  rw [hn'] at hl ⊢
  clear H hr hn'
  go_enter Try.func38, Try.ntmps38
  go_wp2_with (
    at_builtin
    refine sl_app hH.out rfl _ _ _ rfl elemB _ rfl (.here _ _) (bv l) rfl (by rw [bv_length, hn2.out, Nat.mul_one]) hr'.out.rd (bv_one l) (by simp only [maxLen]; omega) (by omega) hn ?_
    intro v' w3 H3 hnil
    have H4 := Lib.hid H3
    clear hnil H3)
  go_ret
  obtain ⟨a', c', rfl, -⟩ := OwnK.slice H4.out.head
  exact ⟨a', c', by simp, by have := H4.out; rw [Nat.zero_add, List.nil_append] at this; exact this⟩

def RSt.come (s : RSt) (k : Ky) (bs : List Int) : RSt := if (filt s.l k).length < s.room then { s with l := s.l ++ [(k, bs)] } else { s with t := { s.t with lost := s.t.lost + 1 } }

theorem rn_join {w : World} {y : Nat} {n room : Int} {sl : Value} {t : Tf} {gs : List RG} {L : List Pc} {n0 : Nat} {k1 k2 : Int} {v : SlT} {bs : List Int} (hn : gs.length = n0)
    (h : SL w (rgB y n room sl t :: .own 91 3 sl (n0 + 1) (rgC gs ++ [.int .i64 k1, .int .i64 k2, slV v]) :: .own 5 1 (slV v) bs.length (bv bs) :: (gs.map rgP ++ L))) : SL w (rnP y n room sl t (gs ++ [⟨(k1, k2), v, bs⟩]) ++ L) := by
  unfold rnP rgS
  rw [List.length_append, List.length_singleton, hn, rgC_append, List.map_append, List.cons_append, List.cons_append, List.append_assoc]
  refine h.perm (((List.perm_middle.symm).cons _).cons _)

section
variable {y : Nat} {s : RSt} {L : List Pc} {w : World}
set_option maxHeartbeats 4000000 in
theorem rcome_s {sl : Value} {gs : List RG} (HS : SL w (rnP y s.n s.room sl s.t gs ++ L)) (hgs : gs.map RG.m = s.l) (ht : Tok 1000000000 s.t) (hB : s.l.length ≤ 2000000) (k1 k2 : Int) (sa : Option Addr) (sc : Nat) (bs : List Int) (hbl : bs.length ≤ 1100) (hr : ∀ V, SL V (rnP y s.n s.room sl s.t gs ++ L) → RdB V sa bs ∧ (sa = none → sc = 0)) :
    Calls Try.prog 51 #[ptrV y, .int .i64 k1, .int .i64 k2, .slice sa bs.length sc] w fun e w' => (∃ v, e = .returned v) ∧ RAt y (s.come (k1, k2) bs) L w' := by
  have H : RAt y s L w := ⟨sl, gs, HS, hgs⟩
  obtain ⟨a0, c0, R⟩ := H.rd
  clear H
  have hlen := Lib.hid (rlen_w R hB k1 k2)
  have croom := R.room
  obtain ⟨n0, n1⟩ := ht.lost
  have hf0 := filt_le s.l (k1, k2)
  obtain ⟨q, hq⟩ : ∃ q, (filt s.l (k1, k2)).length = q := ⟨_, rfl⟩
  rw [hq] at hlen hf0
  have hgl : gs.length = s.l.length := by rw [← hgs]; simp
  by_cases hlt : q < s.room
  · have hfin : Hid (∀ V sl' v, SL V (rnP y s.n s.room sl' s.t (gs ++ [⟨(k1, k2), v, bs⟩]) ++ L) → RAt y (s.come (k1, k2) bs) L V) := Lib.hid fun V sl' v h => by
      unfold RSt.come
      rw [hq, if_pos hlt]
      exact ⟨sl', _, h, by simp [hgs, RG.m]⟩
    have hr' : Hid (∀ V, SL V (rnP y s.n s.room sl s.t gs ++ L) → RdB V sa bs ∧ (sa = none → sc = 0)) := Lib.hid fun V h => hr V h
    obtain ⟨a, c, rfl, hcap, hcm, hnil, -⟩ := rg_cells HS (.there (.here _ _))
    obtain ⟨n, hn⟩ : ∃ n, gs.length = n := ⟨_, rfl⟩
    have hn' := Lib.hid hn
    rw [hn] at hgl hcap HS hr'
    have hn9 : n ≤ 2000000 := by omega
    obtain ⟨bl, hbl'⟩ : ∃ bl, bs.length = bl := ⟨_, rfl⟩
    have hbl2 := Lib.hid hbl'
    have htw := Lib.hid (fun V L' (h : SL V L') (hr : RdB V sa bs) (hn : sa = none → sc = 0) => twin_c bs sa sc V h (by omega) hr hn)
    rw [hbl'] at htw ⊢
    obtain ⟨sn, sroom, st, sl0⟩ := s
    dsimp only at *
    have hH : Hid (SL w (rgB y sn sroom (.slice a n c) st :: .own 91 3 (.slice a n c) n (rgC gs) :: (gs.map rgP ++ L))) := Lib.hid (by
      unfold rnP rgS at HS
      rw [hn] at HS
      exact HS)
    have hr2 : Hid (∀ V, SL V (rgB y sn sroom (.slice a n c) st :: .own 91 3 (.slice a n c) n (rgC gs) :: (gs.map rgP ++ L)) → RdB V sa bs ∧ (sa = none → sc = 0)) := Lib.hid fun V h => hr'.out V (by
      unfold rnP rgS
      rw [hn'.out]
      exact h)
    have hlt' : (q : Int) < sroom := by omega
    clear R HS hgs hgl hr hr' hn hbl' hbl hB hf0 hq ht n0 n1 hlt
    unfold ptrV at *
    go_enter Try.func51, Try.ntmps51
    go_wp2_with fail
    refine hlen.out.mono ?_
    rintro e w' ⟨rfl, rfl⟩
    clear hlen
    go_wp2_with fail
    refine wp_region_any (by kernel_rfl) ?_
    change wpAny _ _ _ _ _ _ _ (World.drew w)
    have H := hH.out.drew
    generalize World.drew w = w2 at *
    clear hH
    refine takeW (i := 0) rfl (by kernel_rfl) (by kernel_rfl) (by kernel_rfl) (fun _ _ _ _ h => h) ?_ (Or.inl ⟨by rfl, ?_⟩) ?_
    rotate_left
    · intro W
      first | (go_simp; done) | (go_simp; with_reducible rfl)
    ((try simp only [Act.put]); (try simp only [List.setIfInBounds_toArray]); (try simp only [List.set_cons_succ]); (try simp only [List.set_cons_zero]))
    refine takeW (i := 1) rfl (by kernel_rfl) (by kernel_rfl) (by kernel_rfl) (fun _ _ _ _ h => h) ?_ (Or.inl ⟨by rfl, ?_⟩) ?_
    rotate_left
    · intro W
      first | (go_simp; done) | (go_simp; with_reducible rfl)
    ((try simp only [Act.put]); (try simp only [List.setIfInBounds_toArray]); (try simp only [List.set_cons_succ]); (try simp only [List.set_cons_zero]))
    refine takeW (i := 2) rfl (by kernel_rfl) (by kernel_rfl) (by kernel_rfl) (fun _ _ _ _ h => h) ?_ (Or.inl ⟨by rfl, ?_⟩) ?_
    rotate_left
    · intro W
      first | (go_simp; done) | (go_simp; with_reducible rfl)
    ((try simp only [Act.put]); (try simp only [List.setIfInBounds_toArray]); (try simp only [List.set_cons_succ]); (try simp only [List.set_cons_zero]))
    refine takeW (i := 3) rfl (by kernel_rfl) (by kernel_rfl) (by kernel_rfl) (fun _ _ _ _ h => h) ?_ (Or.inl ⟨by rfl, ?_⟩) ?_
    rotate_left
    · intro W
      first | (go_simp; done) | (go_simp; with_reducible rfl)
    ((try simp only [Act.put]); (try simp only [List.setIfInBounds_toArray]); (try simp only [List.set_cons_succ]); (try simp only [List.set_cons_zero]))
    refine takeW (i := 5) rfl (by kernel_rfl) (by kernel_rfl) (by kernel_rfl) (fun _ _ _ _ h => h) ?_ (Or.inl ⟨by rfl, ?_⟩) ?_
    rotate_left
    · intro W
      first | (go_simp; done) | (go_simp; with_reducible rfl)
    ((try simp only [Act.put]); (try simp only [List.setIfInBounds_toArray]); (try simp only [List.set_cons_succ]); (try simp only [List.set_cons_zero]))
    refine takeW (i := 6) rfl (by kernel_rfl) (by kernel_rfl) (by kernel_rfl) (fun _ _ _ _ h => h) ?_ (Or.inl ⟨by rfl, ?_⟩) ?_
    rotate_left
    · intro W
      first | (go_simp; done) | (go_simp; with_reducible rfl)
    ((try simp only [Act.put]); (try simp only [List.setIfInBounds_toArray]); (try simp only [List.set_cons_succ]); (try simp only [List.set_cons_zero]))
    refine takeW (i := 7) rfl (by kernel_rfl) (by kernel_rfl) (by kernel_rfl) (fun _ _ _ _ h => h) ?_ (Or.inl ⟨by rfl, ?_⟩) ?_
    rotate_left
    · intro W
      first | (go_simp; done) | (go_simp; with_reducible rfl)
    ((try simp only [Act.put]); (try simp only [List.setIfInBounds_toArray]); (try simp only [List.set_cons_succ]); (try simp only [List.set_cons_zero]))
    refine wpAny_ready (rs := [4, 8]) (by kernel_rfl) (by simp) ?_
    refine AllReady.cons rfl (fun K hK => ?_) ?_
    · rw [if_pos (by rfl)]
      have z0 := H.cell (b := y) (o := 2) (by first | exact .here _ _ | exact .there (.here _ _) | exact .there (.there (.here _ _)) | exact .there (.there (.there (.here _ _))) | exact .there (.there (.there (.there (.here _ _)))) | exact .there (.there (.there (.there (.there (.here _ _))))) | exact .there (.there (.there (.there (.there (.there (.here _ _)))))) | exact .there (.there (.there (.there (.there (.there (.there (.here _ _))))))) | exact .there (.there (.there (.there (.there (.there (.there (.there (.here _ _)))))))) | exact .there (.there (.there (.there (.there (.there (.there (.there (.there (.here _ _))))))))) | exact .there (.there (.there (.there (.there (.there (.there (.there (.there (.there (.here _ _)))))))))) | exact .there (.there (.there (.there (.there (.there (.there (.there (.there (.there (.there (.here _ _))))))))))) | exact .there (.there (.there (.there (.there (.there (.there (.there (.there (.there (.there (.there (.here _ _)))))))))))) | exact .there (.there (.there (.there (.there (.there (.there (.there (.there (.there (.there (.there (.there (.here _ _)))))))))))))) rfl
      go_simp
      clear z0
      refine hK _ _ ?_
      clear hK K
      ((try simp only [Act.put]); (try simp only [List.setIfInBounds_toArray]); (try simp only [List.set_cons_succ]); (try simp only [List.set_cons_zero]))
      refine wpAny_ready (rs := [8]) (by kernel_rfl) (by simp) ?_
      refine AllReady.cons rfl (fun K hK => ?_) ?_
      · rw [if_pos (by rfl)]
        go_simp
        refine (htw.out _ _ H (hr2.out _ H).1 (hr2.out _ H).2).mono ?_
        rintro r w3 ⟨a', c', rfl, H3⟩
        clear H
        have H := H3
        clear H3
        refine hK _ _ ?_
        clear hK K
        ((try simp only [Act.put]); (try simp only [List.setIfInBounds_toArray]); (try simp only [List.set_cons_succ]); (try simp only [List.set_cons_zero]))
        refine takeW (i := 9) rfl (by kernel_rfl) (by kernel_rfl) (by kernel_rfl) (fun _ _ _ _ h => h) ?_ (Or.inl ⟨by rfl, ?_⟩) ?_
        rotate_left
        · intro W
          first | (go_simp; done) | (go_simp; with_reducible rfl)
        ((try simp only [Act.put]); (try simp only [List.setIfInBounds_toArray]); (try simp only [List.set_cons_succ]); (try simp only [List.set_cons_zero]))
        refine wpAny_ready (rs := [10]) (by kernel_rfl) (by simp) ?_
        refine AllReady.cons rfl (fun K hK => ?_) ?_
        · rw [if_pos (by rfl)]
          go_simp
          have H' := H.alloc [.int .i64 k1, .int .i64 k2, .slice a' bl c'] 91
          clear H
          generalize w3.alloc (.cells [Value.int .i64 k1, .int .i64 k2, .slice a' bl c'].toArray 91) = w4 at *
          generalize w3.heap.size = gb at *
          have H := H'
          clear H'
          refine hK _ _ ?_
          clear hK K
          ((try simp only [Act.put]); (try simp only [List.setIfInBounds_toArray]); (try simp only [List.set_cons_succ]); (try simp only [List.set_cons_zero]))
          refine wpAny_ready (rs := [11]) (by kernel_rfl) (by simp) ?_
          refine AllReady.cons rfl (fun K hK => ?_) ?_
          · rw [if_pos (by rfl)]
            refine wpo_app H _ _ _ rfl elemG _ rfl (.there (.there (.there (.here _ _)))) [.int .i64 k1, .int .i64 k2, .slice a' bl c'] rfl rfl (H.rdBlk (.here _ _)) (by simp [Value.oneCell']) (by simp only [maxLen]; omega) (by omega) (fun h => by cases h) ?_
            intro a2 c2 w5 H5
            clear H
            have H := H5
            clear H5
            refine hK _ _ ?_
            clear hK K
            ((try simp only [Act.put]); (try simp only [List.setIfInBounds_toArray]); (try simp only [List.set_cons_succ]); (try simp only [List.set_cons_zero]))
            refine takeW (i := 12) rfl (by kernel_rfl) (by kernel_rfl) (by kernel_rfl) (fun _ _ _ _ h => h) ?_ (Or.inl ⟨by rfl, ?_⟩) ?_
            rotate_left
            · intro W
              first | (go_simp; done) | (go_simp; with_reducible rfl)
            ((try simp only [Act.put]); (try simp only [List.setIfInBounds_toArray]); (try simp only [List.set_cons_succ]); (try simp only [List.set_cons_zero]))
            refine takeW (i := 13) rfl (by kernel_rfl) (by kernel_rfl) (by kernel_rfl) (fun _ _ _ _ h => h) ?_ (Or.inl ⟨by rfl, ?_⟩) ?_
            rotate_left
            · intro W
              first | (go_simp; done) | (go_simp; with_reducible rfl)
            ((try simp only [Act.put]); (try simp only [List.setIfInBounds_toArray]); (try simp only [List.set_cons_succ]); (try simp only [List.set_cons_zero]))
            refine wpAny_ready (rs := [14]) (by kernel_rfl) (by simp) ?_
            refine AllReady.cons rfl (fun K hK => ?_) ?_
            · rw [if_pos (by rfl)]
              have fz := H.free (b := y) (by first | exact .here _ _ | exact .there (.here _ _) | exact .there (.there (.here _ _)) | exact .there (.there (.there (.here _ _))) | exact .there (.there (.there (.there (.here _ _)))) | exact .there (.there (.there (.there (.there (.here _ _))))) | exact .there (.there (.there (.there (.there (.there (.here _ _)))))) | exact .there (.there (.there (.there (.there (.there (.there (.here _ _))))))) | exact .there (.there (.there (.there (.there (.there (.there (.there (.here _ _)))))))) | exact .there (.there (.there (.there (.there (.there (.there (.there (.there (.here _ _))))))))) | exact .there (.there (.there (.there (.there (.there (.there (.there (.there (.there (.here _ _)))))))))) | exact .there (.there (.there (.there (.there (.there (.there (.there (.there (.there (.there (.here _ _))))))))))) | exact .there (.there (.there (.there (.there (.there (.there (.there (.there (.there (.there (.there (.here _ _)))))))))))) | exact .there (.there (.there (.there (.there (.there (.there (.there (.there (.there (.there (.there (.there (.here _ _)))))))))))))) 2
              have z0 := H.cell (b := y) (o := 2) (by first | exact .here _ _ | exact .there (.here _ _) | exact .there (.there (.here _ _)) | exact .there (.there (.there (.here _ _))) | exact .there (.there (.there (.there (.here _ _)))) | exact .there (.there (.there (.there (.there (.here _ _))))) | exact .there (.there (.there (.there (.there (.there (.here _ _)))))) | exact .there (.there (.there (.there (.there (.there (.there (.here _ _))))))) | exact .there (.there (.there (.there (.there (.there (.there (.there (.here _ _)))))))) | exact .there (.there (.there (.there (.there (.there (.there (.there (.there (.here _ _))))))))) | exact .there (.there (.there (.there (.there (.there (.there (.there (.there (.there (.here _ _)))))))))) | exact .there (.there (.there (.there (.there (.there (.there (.there (.there (.there (.there (.here _ _))))))))))) | exact .there (.there (.there (.there (.there (.there (.there (.there (.there (.there (.there (.there (.here _ _)))))))))))) | exact .there (.there (.there (.there (.there (.there (.there (.there (.there (.there (.there (.there (.there (.here _ _)))))))))))))) rfl
              go_simp
              have H' := (show SL _ (rgB y sn sroom (.slice a n c) st :: _) from H.re (.step (by first | exact .here _ _ | exact .there (.here _ _) | exact .there (.there (.here _ _)) | exact .there (.there (.there (.here _ _))) | exact .there (.there (.there (.there (.here _ _)))) | exact .there (.there (.there (.there (.there (.here _ _))))) | exact .there (.there (.there (.there (.there (.there (.here _ _)))))) | exact .there (.there (.there (.there (.there (.there (.there (.here _ _))))))) | exact .there (.there (.there (.there (.there (.there (.there (.there (.here _ _)))))))) | exact .there (.there (.there (.there (.there (.there (.there (.there (.there (.here _ _))))))))) | exact .there (.there (.there (.there (.there (.there (.there (.there (.there (.there (.here _ _)))))))))) | exact .there (.there (.there (.there (.there (.there (.there (.there (.there (.there (.there (.here _ _))))))))))) | exact .there (.there (.there (.there (.there (.there (.there (.there (.there (.there (.there (.there (.here _ _)))))))))))) | exact .there (.there (.there (.there (.there (.there (.there (.there (.there (.there (.there (.there (.there (.here _ _)))))))))))))) (.same _))).setCell 2 (.slice a2 (n + 1) c2)
              clear H fz z0
              have H := H'
              clear H'
              refine hK _ _ ?_
              clear hK K
              ((try simp only [Act.put]); (try simp only [List.setIfInBounds_toArray]); (try simp only [List.set_cons_succ]); (try simp only [List.set_cons_zero]))
              refine wpAny_done (by kernel_rfl) ?_ _
              have hj := rn_join (v := (a', bl, c')) (bs := bs) (k1 := k1) (k2 := k2) (gs := gs) (t := st) (sl := .slice a2 (n + 1) c2) (y := y) hn'.out (by rw [hbl2.out]; exact H.re (.step (.here _ _) (.step (.here _ _) (.drop (.same _)))))
              exact bodyPost_end (results_none rfl _ _ _) rfl ⟨⟨_, rfl⟩, hfin.out _ _ _ hj⟩
            exact AllReady.nil
          exact AllReady.nil
        exact AllReady.nil
      exact AllReady.nil
    refine AllReady.cons rfl (fun K hK => ?_) ?_
    · rw [if_pos (by rfl)]
      go_simp
      refine (htw.out _ _ H (hr2.out _ H).1 (hr2.out _ H).2).mono ?_
      rintro r w3 ⟨a', c', rfl, H3⟩
      clear H
      have H := H3
      clear H3
      refine hK _ _ ?_
      clear hK K
      ((try simp only [Act.put]); (try simp only [List.setIfInBounds_toArray]); (try simp only [List.set_cons_succ]); (try simp only [List.set_cons_zero]))
      refine takeW (i := 9) rfl (by kernel_rfl) (by kernel_rfl) (by kernel_rfl) (fun _ _ _ _ h => h) ?_ (Or.inl ⟨by rfl, ?_⟩) ?_
      rotate_left
      · intro W
        first | (go_simp; done) | (go_simp; with_reducible rfl)
      ((try simp only [Act.put]); (try simp only [List.setIfInBounds_toArray]); (try simp only [List.set_cons_succ]); (try simp only [List.set_cons_zero]))
      refine wpAny_ready (rs := [4, 10]) (by kernel_rfl) (by simp) ?_
      refine AllReady.cons rfl (fun K hK => ?_) ?_
      · rw [if_pos (by rfl)]
        have z0 := H.cell (b := y) (o := 2) (by first | exact .here _ _ | exact .there (.here _ _) | exact .there (.there (.here _ _)) | exact .there (.there (.there (.here _ _))) | exact .there (.there (.there (.there (.here _ _)))) | exact .there (.there (.there (.there (.there (.here _ _))))) | exact .there (.there (.there (.there (.there (.there (.here _ _)))))) | exact .there (.there (.there (.there (.there (.there (.there (.here _ _))))))) | exact .there (.there (.there (.there (.there (.there (.there (.there (.here _ _)))))))) | exact .there (.there (.there (.there (.there (.there (.there (.there (.there (.here _ _))))))))) | exact .there (.there (.there (.there (.there (.there (.there (.there (.there (.there (.here _ _)))))))))) | exact .there (.there (.there (.there (.there (.there (.there (.there (.there (.there (.there (.here _ _))))))))))) | exact .there (.there (.there (.there (.there (.there (.there (.there (.there (.there (.there (.there (.here _ _)))))))))))) | exact .there (.there (.there (.there (.there (.there (.there (.there (.there (.there (.there (.there (.there (.here _ _)))))))))))))) rfl
        go_simp
        clear z0
        refine hK _ _ ?_
        clear hK K
        ((try simp only [Act.put]); (try simp only [List.setIfInBounds_toArray]); (try simp only [List.set_cons_succ]); (try simp only [List.set_cons_zero]))
        refine wpAny_ready (rs := [10]) (by kernel_rfl) (by simp) ?_
        refine AllReady.cons rfl (fun K hK => ?_) ?_
        · rw [if_pos (by rfl)]
          go_simp
          have H' := H.alloc [.int .i64 k1, .int .i64 k2, .slice a' bl c'] 91
          clear H
          generalize w3.alloc (.cells [Value.int .i64 k1, .int .i64 k2, .slice a' bl c'].toArray 91) = w4 at *
          generalize w3.heap.size = gb at *
          have H := H'
          clear H'
          refine hK _ _ ?_
          clear hK K
          ((try simp only [Act.put]); (try simp only [List.setIfInBounds_toArray]); (try simp only [List.set_cons_succ]); (try simp only [List.set_cons_zero]))
          refine wpAny_ready (rs := [11]) (by kernel_rfl) (by simp) ?_
          refine AllReady.cons rfl (fun K hK => ?_) ?_
          · rw [if_pos (by rfl)]
            refine wpo_app H _ _ _ rfl elemG _ rfl (.there (.there (.there (.here _ _)))) [.int .i64 k1, .int .i64 k2, .slice a' bl c'] rfl rfl (H.rdBlk (.here _ _)) (by simp [Value.oneCell']) (by simp only [maxLen]; omega) (by omega) (fun h => by cases h) ?_
            intro a2 c2 w5 H5
            clear H
            have H := H5
            clear H5
            refine hK _ _ ?_
            clear hK K
            ((try simp only [Act.put]); (try simp only [List.setIfInBounds_toArray]); (try simp only [List.set_cons_succ]); (try simp only [List.set_cons_zero]))
            refine takeW (i := 12) rfl (by kernel_rfl) (by kernel_rfl) (by kernel_rfl) (fun _ _ _ _ h => h) ?_ (Or.inl ⟨by rfl, ?_⟩) ?_
            rotate_left
            · intro W
              first | (go_simp; done) | (go_simp; with_reducible rfl)
            ((try simp only [Act.put]); (try simp only [List.setIfInBounds_toArray]); (try simp only [List.set_cons_succ]); (try simp only [List.set_cons_zero]))
            refine takeW (i := 13) rfl (by kernel_rfl) (by kernel_rfl) (by kernel_rfl) (fun _ _ _ _ h => h) ?_ (Or.inl ⟨by rfl, ?_⟩) ?_
            rotate_left
            · intro W
              first | (go_simp; done) | (go_simp; with_reducible rfl)
            ((try simp only [Act.put]); (try simp only [List.setIfInBounds_toArray]); (try simp only [List.set_cons_succ]); (try simp only [List.set_cons_zero]))
            refine wpAny_ready (rs := [14]) (by kernel_rfl) (by simp) ?_
            refine AllReady.cons rfl (fun K hK => ?_) ?_
            · rw [if_pos (by rfl)]
              have fz := H.free (b := y) (by first | exact .here _ _ | exact .there (.here _ _) | exact .there (.there (.here _ _)) | exact .there (.there (.there (.here _ _))) | exact .there (.there (.there (.there (.here _ _)))) | exact .there (.there (.there (.there (.there (.here _ _))))) | exact .there (.there (.there (.there (.there (.there (.here _ _)))))) | exact .there (.there (.there (.there (.there (.there (.there (.here _ _))))))) | exact .there (.there (.there (.there (.there (.there (.there (.there (.here _ _)))))))) | exact .there (.there (.there (.there (.there (.there (.there (.there (.there (.here _ _))))))))) | exact .there (.there (.there (.there (.there (.there (.there (.there (.there (.there (.here _ _)))))))))) | exact .there (.there (.there (.there (.there (.there (.there (.there (.there (.there (.there (.here _ _))))))))))) | exact .there (.there (.there (.there (.there (.there (.there (.there (.there (.there (.there (.there (.here _ _)))))))))))) | exact .there (.there (.there (.there (.there (.there (.there (.there (.there (.there (.there (.there (.there (.here _ _)))))))))))))) 2
              have z0 := H.cell (b := y) (o := 2) (by first | exact .here _ _ | exact .there (.here _ _) | exact .there (.there (.here _ _)) | exact .there (.there (.there (.here _ _))) | exact .there (.there (.there (.there (.here _ _)))) | exact .there (.there (.there (.there (.there (.here _ _))))) | exact .there (.there (.there (.there (.there (.there (.here _ _)))))) | exact .there (.there (.there (.there (.there (.there (.there (.here _ _))))))) | exact .there (.there (.there (.there (.there (.there (.there (.there (.here _ _)))))))) | exact .there (.there (.there (.there (.there (.there (.there (.there (.there (.here _ _))))))))) | exact .there (.there (.there (.there (.there (.there (.there (.there (.there (.there (.here _ _)))))))))) | exact .there (.there (.there (.there (.there (.there (.there (.there (.there (.there (.there (.here _ _))))))))))) | exact .there (.there (.there (.there (.there (.there (.there (.there (.there (.there (.there (.there (.here _ _)))))))))))) | exact .there (.there (.there (.there (.there (.there (.there (.there (.there (.there (.there (.there (.there (.here _ _)))))))))))))) rfl
              go_simp
              have H' := (show SL _ (rgB y sn sroom (.slice a n c) st :: _) from H.re (.step (by first | exact .here _ _ | exact .there (.here _ _) | exact .there (.there (.here _ _)) | exact .there (.there (.there (.here _ _))) | exact .there (.there (.there (.there (.here _ _)))) | exact .there (.there (.there (.there (.there (.here _ _))))) | exact .there (.there (.there (.there (.there (.there (.here _ _)))))) | exact .there (.there (.there (.there (.there (.there (.there (.here _ _))))))) | exact .there (.there (.there (.there (.there (.there (.there (.there (.here _ _)))))))) | exact .there (.there (.there (.there (.there (.there (.there (.there (.there (.here _ _))))))))) | exact .there (.there (.there (.there (.there (.there (.there (.there (.there (.there (.here _ _)))))))))) | exact .there (.there (.there (.there (.there (.there (.there (.there (.there (.there (.there (.here _ _))))))))))) | exact .there (.there (.there (.there (.there (.there (.there (.there (.there (.there (.there (.there (.here _ _)))))))))))) | exact .there (.there (.there (.there (.there (.there (.there (.there (.there (.there (.there (.there (.there (.here _ _)))))))))))))) (.same _))).setCell 2 (.slice a2 (n + 1) c2)
              clear H fz z0
              have H := H'
              clear H'
              refine hK _ _ ?_
              clear hK K
              ((try simp only [Act.put]); (try simp only [List.setIfInBounds_toArray]); (try simp only [List.set_cons_succ]); (try simp only [List.set_cons_zero]))
              refine wpAny_done (by kernel_rfl) ?_ _
              have hj := rn_join (v := (a', bl, c')) (bs := bs) (k1 := k1) (k2 := k2) (gs := gs) (t := st) (sl := .slice a2 (n + 1) c2) (y := y) hn'.out (by rw [hbl2.out]; exact H.re (.step (.here _ _) (.step (.here _ _) (.drop (.same _)))))
              exact bodyPost_end (results_none rfl _ _ _) rfl ⟨⟨_, rfl⟩, hfin.out _ _ _ hj⟩
            exact AllReady.nil
          exact AllReady.nil
        exact AllReady.nil
      refine AllReady.cons rfl (fun K hK => ?_) ?_
      · rw [if_pos (by rfl)]
        go_simp
        have H' := H.alloc [.int .i64 k1, .int .i64 k2, .slice a' bl c'] 91
        clear H
        generalize w3.alloc (.cells [Value.int .i64 k1, .int .i64 k2, .slice a' bl c'].toArray 91) = w4 at *
        generalize w3.heap.size = gb at *
        have H := H'
        clear H'
        refine hK _ _ ?_
        clear hK K
        ((try simp only [Act.put]); (try simp only [List.setIfInBounds_toArray]); (try simp only [List.set_cons_succ]); (try simp only [List.set_cons_zero]))
        refine wpAny_ready (rs := [4]) (by kernel_rfl) (by simp) ?_
        refine AllReady.cons rfl (fun K hK => ?_) ?_
        · rw [if_pos (by rfl)]
          have z0 := H.cell (b := y) (o := 2) (by first | exact .here _ _ | exact .there (.here _ _) | exact .there (.there (.here _ _)) | exact .there (.there (.there (.here _ _))) | exact .there (.there (.there (.there (.here _ _)))) | exact .there (.there (.there (.there (.there (.here _ _))))) | exact .there (.there (.there (.there (.there (.there (.here _ _)))))) | exact .there (.there (.there (.there (.there (.there (.there (.here _ _))))))) | exact .there (.there (.there (.there (.there (.there (.there (.there (.here _ _)))))))) | exact .there (.there (.there (.there (.there (.there (.there (.there (.there (.here _ _))))))))) | exact .there (.there (.there (.there (.there (.there (.there (.there (.there (.there (.here _ _)))))))))) | exact .there (.there (.there (.there (.there (.there (.there (.there (.there (.there (.there (.here _ _))))))))))) | exact .there (.there (.there (.there (.there (.there (.there (.there (.there (.there (.there (.there (.here _ _)))))))))))) | exact .there (.there (.there (.there (.there (.there (.there (.there (.there (.there (.there (.there (.there (.here _ _)))))))))))))) rfl
          go_simp
          clear z0
          refine hK _ _ ?_
          clear hK K
          ((try simp only [Act.put]); (try simp only [List.setIfInBounds_toArray]); (try simp only [List.set_cons_succ]); (try simp only [List.set_cons_zero]))
          refine wpAny_ready (rs := [11]) (by kernel_rfl) (by simp) ?_
          refine AllReady.cons rfl (fun K hK => ?_) ?_
          · rw [if_pos (by rfl)]
            refine wpo_app H _ _ _ rfl elemG _ rfl (.there (.there (.there (.here _ _)))) [.int .i64 k1, .int .i64 k2, .slice a' bl c'] rfl rfl (H.rdBlk (.here _ _)) (by simp [Value.oneCell']) (by simp only [maxLen]; omega) (by omega) (fun h => by cases h) ?_
            intro a2 c2 w5 H5
            clear H
            have H := H5
            clear H5
            refine hK _ _ ?_
            clear hK K
            ((try simp only [Act.put]); (try simp only [List.setIfInBounds_toArray]); (try simp only [List.set_cons_succ]); (try simp only [List.set_cons_zero]))
            refine takeW (i := 12) rfl (by kernel_rfl) (by kernel_rfl) (by kernel_rfl) (fun _ _ _ _ h => h) ?_ (Or.inl ⟨by rfl, ?_⟩) ?_
            rotate_left
            · intro W
              first | (go_simp; done) | (go_simp; with_reducible rfl)
            ((try simp only [Act.put]); (try simp only [List.setIfInBounds_toArray]); (try simp only [List.set_cons_succ]); (try simp only [List.set_cons_zero]))
            refine takeW (i := 13) rfl (by kernel_rfl) (by kernel_rfl) (by kernel_rfl) (fun _ _ _ _ h => h) ?_ (Or.inl ⟨by rfl, ?_⟩) ?_
            rotate_left
            · intro W
              first | (go_simp; done) | (go_simp; with_reducible rfl)
            ((try simp only [Act.put]); (try simp only [List.setIfInBounds_toArray]); (try simp only [List.set_cons_succ]); (try simp only [List.set_cons_zero]))
            refine wpAny_ready (rs := [14]) (by kernel_rfl) (by simp) ?_
            refine AllReady.cons rfl (fun K hK => ?_) ?_
            · rw [if_pos (by rfl)]
              have fz := H.free (b := y) (by first | exact .here _ _ | exact .there (.here _ _) | exact .there (.there (.here _ _)) | exact .there (.there (.there (.here _ _))) | exact .there (.there (.there (.there (.here _ _)))) | exact .there (.there (.there (.there (.there (.here _ _))))) | exact .there (.there (.there (.there (.there (.there (.here _ _)))))) | exact .there (.there (.there (.there (.there (.there (.there (.here _ _))))))) | exact .there (.there (.there (.there (.there (.there (.there (.there (.here _ _)))))))) | exact .there (.there (.there (.there (.there (.there (.there (.there (.there (.here _ _))))))))) | exact .there (.there (.there (.there (.there (.there (.there (.there (.there (.there (.here _ _)))))))))) | exact .there (.there (.there (.there (.there (.there (.there (.there (.there (.there (.there (.here _ _))))))))))) | exact .there (.there (.there (.there (.there (.there (.there (.there (.there (.there (.there (.there (.here _ _)))))))))))) | exact .there (.there (.there (.there (.there (.there (.there (.there (.there (.there (.there (.there (.there (.here _ _)))))))))))))) 2
              have z0 := H.cell (b := y) (o := 2) (by first | exact .here _ _ | exact .there (.here _ _) | exact .there (.there (.here _ _)) | exact .there (.there (.there (.here _ _))) | exact .there (.there (.there (.there (.here _ _)))) | exact .there (.there (.there (.there (.there (.here _ _))))) | exact .there (.there (.there (.there (.there (.there (.here _ _)))))) | exact .there (.there (.there (.there (.there (.there (.there (.here _ _))))))) | exact .there (.there (.there (.there (.there (.there (.there (.there (.here _ _)))))))) | exact .there (.there (.there (.there (.there (.there (.there (.there (.there (.here _ _))))))))) | exact .there (.there (.there (.there (.there (.there (.there (.there (.there (.there (.here _ _)))))))))) | exact .there (.there (.there (.there (.there (.there (.there (.there (.there (.there (.there (.here _ _))))))))))) | exact .there (.there (.there (.there (.there (.there (.there (.there (.there (.there (.there (.there (.here _ _)))))))))))) | exact .there (.there (.there (.there (.there (.there (.there (.there (.there (.there (.there (.there (.there (.here _ _)))))))))))))) rfl
              go_simp
              have H' := (show SL _ (rgB y sn sroom (.slice a n c) st :: _) from H.re (.step (by first | exact .here _ _ | exact .there (.here _ _) | exact .there (.there (.here _ _)) | exact .there (.there (.there (.here _ _))) | exact .there (.there (.there (.there (.here _ _)))) | exact .there (.there (.there (.there (.there (.here _ _))))) | exact .there (.there (.there (.there (.there (.there (.here _ _)))))) | exact .there (.there (.there (.there (.there (.there (.there (.here _ _))))))) | exact .there (.there (.there (.there (.there (.there (.there (.there (.here _ _)))))))) | exact .there (.there (.there (.there (.there (.there (.there (.there (.there (.here _ _))))))))) | exact .there (.there (.there (.there (.there (.there (.there (.there (.there (.there (.here _ _)))))))))) | exact .there (.there (.there (.there (.there (.there (.there (.there (.there (.there (.there (.here _ _))))))))))) | exact .there (.there (.there (.there (.there (.there (.there (.there (.there (.there (.there (.there (.here _ _)))))))))))) | exact .there (.there (.there (.there (.there (.there (.there (.there (.there (.there (.there (.there (.there (.here _ _)))))))))))))) (.same _))).setCell 2 (.slice a2 (n + 1) c2)
              clear H fz z0
              have H := H'
              clear H'
              refine hK _ _ ?_
              clear hK K
              ((try simp only [Act.put]); (try simp only [List.setIfInBounds_toArray]); (try simp only [List.set_cons_succ]); (try simp only [List.set_cons_zero]))
              refine wpAny_done (by kernel_rfl) ?_ _
              have hj := rn_join (v := (a', bl, c')) (bs := bs) (k1 := k1) (k2 := k2) (gs := gs) (t := st) (sl := .slice a2 (n + 1) c2) (y := y) hn'.out (by rw [hbl2.out]; exact H.re (.step (.here _ _) (.step (.here _ _) (.drop (.same _)))))
              exact bodyPost_end (results_none rfl _ _ _) rfl ⟨⟨_, rfl⟩, hfin.out _ _ _ hj⟩
            exact AllReady.nil
          exact AllReady.nil
        exact AllReady.nil
      exact AllReady.nil
    exact AllReady.nil
  · have hfin : Hid (∀ V, SL V (rnP y s.n s.room sl { s.t with lost := s.t.lost + 1 } gs ++ L) → RAt y (s.come (k1, k2) bs) L V) := Lib.hid fun V h => by
      unfold RSt.come
      rw [hq, if_neg hlt]
      exact ⟨sl, _, h, hgs⟩
    have hlt' : (s.room : Int) ≤ q := by omega
    have c7 := HS.cell (b := y) (o := 7) (.here _ _) rfl
    have f7 := HS.free (b := y) (.here _ _) 7
    have hS2 := Lib.hid ((show SL w (rgB y s.n s.room sl s.t :: _) from HS).setCell 7 (.int .i64 (s.t.lost + 1)))
    obtain ⟨bl, hbl'⟩ : ∃ bl, bs.length = bl := ⟨_, rfl⟩
    rw [hbl']
    clear R HS hgs hgl hr hbl' hbl hB hf0 hq ht hlt
    unfold ptrV at *
    go_enter Try.func51, Try.ntmps51
    go_wp2_with fail
    refine hlen.out.mono ?_
    rintro e w' ⟨rfl, rfl⟩
    clear hlen
    go_wp2_with fail
    refine bodyPost_ret (v := .tuple #[]) (results_none rfl _ _ _) rfl ?_
    exact ⟨⟨_, rfl⟩, hfin.out _ hS2.out⟩
theorem rcome_c (H : RAt y s L w) (ht : Tok 1000000000 s.t) (hB : s.l.length ≤ 2000000) (k1 k2 : Int) (sa : Option Addr) (sc : Nat) (bs : List Int) (hbl : bs.length ≤ 1100) (hr : ∀ V, SL V L → RdB V sa bs ∧ (sa = none → sc = 0)) :
    Calls Try.prog 51 #[ptrV y, .int .i64 k1, .int .i64 k2, .slice sa bs.length sc] w fun e w' => (∃ v, e = .returned v) ∧ RAt y (s.come (k1, k2) bs) L w' := by
  obtain ⟨sl, gs, HS, hgs⟩ := H
  exact rcome_s HS hgs ht hB k1 k2 sa sc bs hbl fun V h => hr V (h.re (re_right _ _))
end
end Go.Proofs.Ytnkahibddhchlaa
