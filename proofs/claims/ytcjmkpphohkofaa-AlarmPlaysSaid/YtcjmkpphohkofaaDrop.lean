/- Drop, Calm, Below. -/
import Derived.Test.YtcjmkpphohkofaaOn
namespace Go.Proofs.Ytcjmkpphohkofaa
open Go.RowKit
set_option linter.unusedVariables false

section
variable {R : Int} {p : Nat} {s : Ck} {L : List Pc} {w : World}
set_option maxRecDepth 100000 in
set_option maxHeartbeats 8000000 in
theorem dropf_c {cb : Nat} {k : Int} {i : Nat} (hh : hit s.l k i = true) (H : CAt R p s (.blk cb [ptrV p] 25 :: L) w) :
    Calls Try.prog 30 #[.int .i64 (i : Nat), ptrV cb] w fun e w' => (∃ v, e = .returned v) ∧ CAt R p { s with l := dropK s.l k } (.blk cb [ptrV p] 25 :: L) w' := by
  obtain ⟨sl, HS, ok⟩ := H
  obtain ⟨hi, -⟩ := hit_at hh
  have hlen := ok.len
  have heq : s.l.take i ++ s.l.drop (i + 1) = dropK s.l k := erase_at ok.srt hh
  have hok := Lib.hid (ok.filter fun x => !decide (x.key = k))
  have hdel := Lib.hid (fun V v L (H : SL V (.own 59 4 v s.l.length (alC s.l) :: L)) => delete_c (i := i) (j := i + 1) H (by omega) (by omega) (by omega))
  rw [heq] at hdel
  have hnl : (dropK s.l k).length = s.l.length - (i + 1 - i) := by rw [← heq, List.length_append, List.length_take, List.length_drop]; omega
  rw [← hnl] at hdel
  have hown : OwnK w 0 59 4 sl s.l.length (alC s.l) := HS.ownOf (.there (.here _ _))
  obtain ⟨sa, sc, rfl, -, -, -, -, -⟩ := hown.slice
  unfold ckP at HS
  obtain ⟨a, b, l⟩ := s
  dsimp only at *
  have hok : Hid (CkOk R ⟨a, b, dropK l k⟩) := hok
  have hH := Lib.hid (show SL w (_ :: _ :: _ :: L) from HS)
  have hone : ((i + 1 : Nat) : Int) = (i : Int) + 1 := by omega
  rw [hone] at hdel
  have hw1 : IntKind.i64.wrap ((i : Int) + 1) = (i : Int) + 1 := by rw [IntKind.wrap_i64]; omega
  clear HS ok heq hnl hown hone hlen hh
  have hfin : Hid (∀ V v, SL V (.blk p [.int .i64 a, .int .i64 b, v] 54 :: .own 59 4 v (dropK l k).length (alC (dropK l k)) :: .blk cb [ptrV p] 25 :: L) → CAt R p ⟨a, b, dropK l k⟩ (.blk cb [ptrV p] 25 :: L) V) := Lib.hid fun V v h => ⟨v, h, hok.out⟩
  clear hok
  obtain ⟨nl, hnl⟩ : ∃ nl, dropK l k = nl := ⟨_, rfl⟩
  have hnl' := Lib.hid hnl
  rw [hnl] at hdel hfin
  clear hnl
  generalize l.length = n at *
  unfold ptrV at *
  go_enter Try.func30, Try.ntmps30
  refine wp_region_held_drew (S := (fun W => W.cell? ⟨cb, 0, none⟩ = some (.pointer (some ⟨p, 0, none⟩)))) (by kernel_rfl) ?_ (fun hHeld => ?_)
  · have H := hH.out.drew
    exact H.cell (b := cb) (o := 0) (by first | exact .here _ _ | exact .there (.here _ _) | exact .there (.there (.here _ _)) | exact .there (.there (.there (.here _ _))) | exact .there (.there (.there (.there (.here _ _)))) | exact .there (.there (.there (.there (.there (.here _ _))))) | exact .there (.there (.there (.there (.there (.there (.here _ _)))))) | exact .there (.there (.there (.there (.there (.there (.there (.here _ _))))))) | exact .there (.there (.there (.there (.there (.there (.there (.there (.here _ _)))))))) | exact .there (.there (.there (.there (.there (.there (.there (.there (.there (.here _ _))))))))) | exact .there (.there (.there (.there (.there (.there (.there (.there (.there (.there (.here _ _)))))))))) | exact .there (.there (.there (.there (.there (.there (.there (.there (.there (.there (.there (.here _ _))))))))))) | exact .there (.there (.there (.there (.there (.there (.there (.there (.there (.there (.there (.there (.here _ _)))))))))))) | exact .there (.there (.there (.there (.there (.there (.there (.there (.there (.there (.there (.there (.there (.here _ _)))))))))))))) rfl
  have H := hH.out.drew
  generalize World.drew w = w4 at *
  clear hH
  refine takeL (i := 0) rfl (by kernel_rfl) (by kernel_rfl) (by kernel_rfl) (fun _ _ _ _ h => h) hHeld ?_ (Or.inl ⟨by rfl, ?_⟩) ?_
  rotate_left
  · intro W hW
    (try dsimp only at hW)
    first | (go_simp; done) | (go_simp; with_reducible rfl)
  ((try simp only [Act.put]); (try simp only [List.setIfInBounds_toArray]); (try simp only [List.set_cons_succ]); (try simp only [List.set_cons_zero]))
  refine takeL (i := 1) rfl (by kernel_rfl) (by kernel_rfl) (by kernel_rfl) (fun _ _ _ _ h => h) hHeld ?_ (Or.inl ⟨by rfl, ?_⟩) ?_
  rotate_left
  · intro W hW
    (try dsimp only at hW)
    first | (go_simp; done) | (go_simp; with_reducible rfl)
  ((try simp only [Act.put]); (try simp only [List.setIfInBounds_toArray]); (try simp only [List.set_cons_succ]); (try simp only [List.set_cons_zero]))
  refine takeL (i := 2) rfl (by kernel_rfl) (by kernel_rfl) (by kernel_rfl) (fun _ _ _ _ h => h) hHeld ?_ (Or.inl ⟨by rfl, ?_⟩) ?_
  rotate_left
  · intro W hW
    (try dsimp only at hW)
    first | (go_simp; done) | (go_simp; with_reducible rfl)
  ((try simp only [Act.put]); (try simp only [List.setIfInBounds_toArray]); (try simp only [List.set_cons_succ]); (try simp only [List.set_cons_zero]))
  refine takeL (i := 3) rfl (by kernel_rfl) (by kernel_rfl) (by kernel_rfl) (fun _ _ _ _ h => h) hHeld ?_ (Or.inl ⟨by rfl, ?_⟩) ?_
  rotate_left
  · intro W hW
    (try dsimp only at hW)
    first | (go_simp; done) | (go_simp; with_reducible rfl)
  ((try simp only [Act.put]); (try simp only [List.setIfInBounds_toArray]); (try simp only [List.set_cons_succ]); (try simp only [List.set_cons_zero]))
  refine takeL (i := 5) rfl (by kernel_rfl) (by kernel_rfl) (by kernel_rfl) (fun _ _ _ _ h => h) hHeld ?_ (Or.inl ⟨by rfl, ?_⟩) ?_
  rotate_left
  · intro W hW
    (try dsimp only at hW)
    first | (go_simp; done) | (go_simp; with_reducible rfl)
  ((try simp only [Act.put]); (try simp only [List.setIfInBounds_toArray]); (try simp only [List.set_cons_succ]); (try simp only [List.set_cons_zero]))
  refine takeL (i := 6) rfl (by kernel_rfl) (by kernel_rfl) (by kernel_rfl) (fun _ _ _ _ h => h) hHeld ?_ (Or.inl ⟨by rfl, ?_⟩) ?_
  rotate_left
  · intro W hW
    (try dsimp only at hW)
    first | (go_simp; done) | (go_simp; with_reducible rfl)
  ((try simp only [Act.put]); (try simp only [List.setIfInBounds_toArray]); (try simp only [List.set_cons_succ]); (try simp only [List.set_cons_zero]))
  refine takeL (i := 7) rfl (by kernel_rfl) (by kernel_rfl) (by kernel_rfl) (fun _ _ _ _ h => h) hHeld ?_ (Or.inl ⟨by rfl, ?_⟩) ?_
  rotate_left
  · intro W hW
    (try dsimp only at hW)
    first | (go_simp; done) | (go_simp; with_reducible rfl)
  ((try simp only [Act.put]); (try simp only [List.setIfInBounds_toArray]); (try simp only [List.set_cons_succ]); (try simp only [List.set_cons_zero]))
  refine callL (i := 4) rfl (by kernel_rfl) (fun K hK => ?_)
  rw [if_pos (by rfl)]
  have c2 := H.cell (b := p) (o := 2) (by first | exact .here _ _ | exact .there (.here _ _) | exact .there (.there (.here _ _)) | exact .there (.there (.there (.here _ _))) | exact .there (.there (.there (.there (.here _ _)))) | exact .there (.there (.there (.there (.there (.here _ _))))) | exact .there (.there (.there (.there (.there (.there (.here _ _)))))) | exact .there (.there (.there (.there (.there (.there (.there (.here _ _))))))) | exact .there (.there (.there (.there (.there (.there (.there (.there (.here _ _)))))))) | exact .there (.there (.there (.there (.there (.there (.there (.there (.there (.here _ _))))))))) | exact .there (.there (.there (.there (.there (.there (.there (.there (.there (.there (.here _ _)))))))))) | exact .there (.there (.there (.there (.there (.there (.there (.there (.there (.there (.there (.here _ _))))))))))) | exact .there (.there (.there (.there (.there (.there (.there (.there (.there (.there (.there (.there (.here _ _)))))))))))) | exact .there (.there (.there (.there (.there (.there (.there (.there (.there (.there (.there (.there (.there (.here _ _)))))))))))))) rfl
  go_simp
  clear c2 hHeld
  refine hK.out _ _ ?_ (fun hHeld => ?_)
  · exact H.cell (b := cb) (o := 0) (by first | exact .here _ _ | exact .there (.here _ _) | exact .there (.there (.here _ _)) | exact .there (.there (.there (.here _ _))) | exact .there (.there (.there (.there (.here _ _)))) | exact .there (.there (.there (.there (.there (.here _ _))))) | exact .there (.there (.there (.there (.there (.there (.here _ _)))))) | exact .there (.there (.there (.there (.there (.there (.there (.here _ _))))))) | exact .there (.there (.there (.there (.there (.there (.there (.there (.here _ _)))))))) | exact .there (.there (.there (.there (.there (.there (.there (.there (.there (.here _ _))))))))) | exact .there (.there (.there (.there (.there (.there (.there (.there (.there (.there (.here _ _)))))))))) | exact .there (.there (.there (.there (.there (.there (.there (.there (.there (.there (.there (.here _ _))))))))))) | exact .there (.there (.there (.there (.there (.there (.there (.there (.there (.there (.there (.there (.here _ _)))))))))))) | exact .there (.there (.there (.there (.there (.there (.there (.there (.there (.there (.there (.there (.there (.here _ _)))))))))))))) rfl
  clear hK K
  ((try simp only [Act.put]); (try simp only [List.setIfInBounds_toArray]); (try simp only [List.set_cons_succ]); (try simp only [List.set_cons_zero]))
  refine callL (i := 8) rfl (by kernel_rfl) (fun K hK => ?_)
  rw [if_pos (by rfl)]
  go_simp
  refine (hdel.out w4 (.slice sa n sc) _ (H.re (.step (.there (.here _ _)) (.same _)))).mono ?_
  rintro e w6 ⟨v', rfl, H6⟩
  obtain ⟨va, vc, rfl, -⟩ := OwnK.slice H6.head
  have H := (H6.re (.step (.there (.here _ _)) (.same _)) : SL w6 (.blk p [.int .i64 a, .int .i64 b, .slice sa n sc] 54 :: .own 59 4 (.slice va nl.length vc) nl.length (alC nl) :: .blk cb [.pointer (some ⟨p, 0, none⟩)] 25 :: L))
  clear H6
  refine hK.out _ _ ?_ (fun hHeld => ?_)
  · exact H.cell (b := cb) (o := 0) (by first | exact .here _ _ | exact .there (.here _ _) | exact .there (.there (.here _ _)) | exact .there (.there (.there (.here _ _))) | exact .there (.there (.there (.there (.here _ _)))) | exact .there (.there (.there (.there (.there (.here _ _))))) | exact .there (.there (.there (.there (.there (.there (.here _ _)))))) | exact .there (.there (.there (.there (.there (.there (.there (.here _ _))))))) | exact .there (.there (.there (.there (.there (.there (.there (.there (.here _ _)))))))) | exact .there (.there (.there (.there (.there (.there (.there (.there (.there (.here _ _))))))))) | exact .there (.there (.there (.there (.there (.there (.there (.there (.there (.there (.here _ _)))))))))) | exact .there (.there (.there (.there (.there (.there (.there (.there (.there (.there (.there (.here _ _))))))))))) | exact .there (.there (.there (.there (.there (.there (.there (.there (.there (.there (.there (.there (.here _ _)))))))))))) | exact .there (.there (.there (.there (.there (.there (.there (.there (.there (.there (.there (.there (.there (.here _ _)))))))))))))) rfl
  clear hK K
  ((try simp only [Act.put]); (try simp only [List.setIfInBounds_toArray]); (try simp only [List.set_cons_succ]); (try simp only [List.set_cons_zero]))
  refine takeL (i := 9) rfl (by kernel_rfl) (by kernel_rfl) (by kernel_rfl) (fun _ _ _ _ h => h) hHeld ?_ (Or.inl ⟨by rfl, ?_⟩) ?_
  rotate_left
  · intro W hW
    (try dsimp only at hW)
    first | (go_simp; done) | (go_simp; with_reducible rfl)
  ((try simp only [Act.put]); (try simp only [List.setIfInBounds_toArray]); (try simp only [List.set_cons_succ]); (try simp only [List.set_cons_zero]))
  refine takeL (i := 10) rfl (by kernel_rfl) (by kernel_rfl) (by kernel_rfl) (fun _ _ _ _ h => h) hHeld ?_ (Or.inl ⟨by rfl, ?_⟩) ?_
  rotate_left
  · intro W hW
    (try dsimp only at hW)
    first | (go_simp; done) | (go_simp; with_reducible rfl)
  ((try simp only [Act.put]); (try simp only [List.setIfInBounds_toArray]); (try simp only [List.set_cons_succ]); (try simp only [List.set_cons_zero]))
  refine callL (i := 11) rfl (by kernel_rfl) (fun K hK => ?_)
  rw [if_pos (by rfl)]
  have f2 := H.free (b := p) (.here _ _) 2
  have c2 := H.cell (b := p) (o := 2) (.here _ _) rfl
  go_simp
  have H' := H.setCell 2 (.slice va nl.length vc)
  clear H hHeld
  have H := H'
  clear H'
  refine hK.out _ _ ?_ (fun hHeld => ?_)
  · exact H.cell (b := cb) (o := 0) (by first | exact .here _ _ | exact .there (.here _ _) | exact .there (.there (.here _ _)) | exact .there (.there (.there (.here _ _))) | exact .there (.there (.there (.there (.here _ _)))) | exact .there (.there (.there (.there (.there (.here _ _))))) | exact .there (.there (.there (.there (.there (.there (.here _ _)))))) | exact .there (.there (.there (.there (.there (.there (.there (.here _ _))))))) | exact .there (.there (.there (.there (.there (.there (.there (.there (.here _ _)))))))) | exact .there (.there (.there (.there (.there (.there (.there (.there (.there (.here _ _))))))))) | exact .there (.there (.there (.there (.there (.there (.there (.there (.there (.there (.here _ _)))))))))) | exact .there (.there (.there (.there (.there (.there (.there (.there (.there (.there (.there (.here _ _))))))))))) | exact .there (.there (.there (.there (.there (.there (.there (.there (.there (.there (.there (.there (.here _ _)))))))))))) | exact .there (.there (.there (.there (.there (.there (.there (.there (.there (.there (.there (.there (.there (.here _ _)))))))))))))) rfl
  clear hK K
  ((try simp only [Act.put]); (try simp only [List.setIfInBounds_toArray]); (try simp only [List.set_cons_succ]); (try simp only [List.set_cons_zero]))
  refine wpAnyH_done (by kernel_rfl) ?_ _
  have hf := Lib.hid (hfin.out _ _ H)
  clear H hHeld hdel hfin
  go_wp2_with fail
  refine bodyPost_end (results_none rfl _ _ _) rfl ⟨⟨_, rfl⟩, ?_⟩
  rw [hnl'.out]
  exact hf.out

theorem drop_yes (H : CAt R p s L w) {k : Int} (hy : hasK s.l k = true) :
    Calls Try.prog 11 #[ptrV p, .int .u64 k] w fun e w' => e = .returned (.int .i64 0) ∧ CAt R p { s with l := dropK s.l k } L w' := by
  have ho := Lib.hid (on_drop (H.alloc [ptrV p] 25) k hy (ptrV w.heap.size) (fun V i h1 h2 => dropf_c h1 h2))
  have hH := Lib.hid ((H.alloc [ptrV p] 25).tail)
  clear H
  unfold ptrV at *
  go_enter Try.func11, Try.ntmps11
  go_wp2_with fail
  refine ho.out.mono ?_
  rintro e w2 ⟨rfl, H2⟩
  have hfin := Lib.hid (H2.re (.drop (.same _)))
  clear ho H2
  go_wp2_with fail
  go_ret
  exact ⟨rfl, hfin.out⟩
theorem drop_no (H : CAt R p s L w) {k : Int} (hn : hasK s.l k = false) :
    Calls Try.prog 11 #[ptrV p, .int .u64 k] w fun e w' => e = .returned (.int .i64 200) ∧ CAt R p s L w' := by
  have ho := Lib.hid (fun f => on_no (H.alloc [ptrV p] 25) k hn f)
  clear H
  unfold ptrV at *
  go_enter Try.func11, Try.ntmps11
  go_wp2_with fail
  refine (ho.out _).mono ?_
  rintro e w2 ⟨rfl, H2⟩
  have hfin := Lib.hid (H2.re (.drop (.same _)))
  clear ho H2
  go_wp2_with fail
  go_ret
  exact ⟨rfl, hfin.out⟩
set_option maxRecDepth 100000 in
set_option maxHeartbeats 8000000 in
theorem below_c (H : CAt R p s L w) (k : Int) :
    Calls Try.prog 21 #[ptrV p, .int .u64 k] w fun e w' => e = .returned (.int .i64 (s.l.length - (fromK s.l k).length : Nat)) ∧ CAt R p { s with l := fromK s.l k } L w' := by
  have hno := Lib.hid (none_c H)
  obtain ⟨sl, HS, ok⟩ := H
  have hfi := Lib.hid (find_c HS ok k)
  have hok := Lib.hid ok
  clear HS ok
  unfold ptrV at *
  go_enter Try.func21, Try.ntmps21
  go_wp2_with fail
  refine hno.out.mono ?_
  rintro e w2 ⟨rfl, rfl⟩
  go_wp2_with fail
  refine hfi.out.mono ?_
  rintro e w2 ⟨i, rfl, hc, H2⟩
  have hlen := hok.out.len
  have hi := hc.len
  have heq : s.l.drop i = fromK s.l k := (cut_take hc).2
  have hdel := Lib.hid (fun V v L (H : SL V (.own 59 4 v s.l.length (alC s.l) :: L)) => delete_c (i := 0) (j := i) H (by omega) (by omega) (by omega))
  rw [List.take_zero, List.nil_append, heq] at hdel
  have hnl : (fromK s.l k).length = s.l.length - (i - 0) := by rw [← heq, List.length_drop]; omega
  rw [← hnl] at hdel
  have hres : Hid (s.l.length - (fromK s.l k).length = i) := Lib.hid (by rw [hnl]; omega)
  have hown : OwnK w2 0 59 4 sl s.l.length (alC s.l) := H2.ownOf (.there (.here _ _))
  obtain ⟨sa, sc, rfl, -, -, -, -, -⟩ := hown.slice
  have hok : Hid (CkOk R { s with l := fromK s.l k }) := Lib.hid (hok.out.filter fun x => !decide (x.key < k))
  unfold ckP at H2
  obtain ⟨a, b, l⟩ := s
  dsimp only at *
  have H2 : SL w2 (_ :: _ :: L) := H2
  have c2 := H2.cell (b := p) (o := 2) (.here _ _) rfl
  have hd := Lib.hid (hdel.out _ _ _ (H2.re (.step (.there (.here _ _)) (.same _))))
  have hi2 : i < 100000 := by omega
  clear hfi hno hdel H2 heq hnl hown hlen hi hc
  go_wp2_with fail
  refine hd.out.mono ?_
  rintro e w6 ⟨v', rfl, H6⟩
  obtain ⟨va, vc, rfl, -⟩ := OwnK.slice H6.head
  have f2 := H6.free (b := p) (.there (.here _ _)) 2
  have c3 := H6.cell (b := p) (o := 2) (.there (.here _ _)) rfl
  have hfin := Lib.hid (show CAt R p ⟨a, b, fromK l k⟩ L _ from ⟨_, (H6.re (.step (.there (.here _ _)) (.same _))).setCell 2 (.slice va (fromK l k).length vc), hok.out⟩)
  clear hd H6 hok c2
  go_wp2_with fail
  go_ret
  rw [hres.out]
  exact ⟨rfl, hfin.out⟩
end
end Go.Proofs.Ytcjmkpphohkofaa
