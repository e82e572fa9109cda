/- Keys, Next. -/
import Derived.Test.YtcjmkpphohkofaaAll
namespace Go.Proofs.Ytcjmkpphohkofaa
open Go.RowKit Go.Shelf
set_option linter.unusedVariables false
attribute [local go_sem] Oper.semAt_some

theorem it_put {V : World} {X : Pc} {O N L : List Pc} (H : SL V (X :: (O ++ (N ++ L)))) : SL V ((O ++ L) ++ (X :: N)) := by
  refine H.perm ?_
  have h1 : List.Perm ((O ++ L) ++ (X :: N)) ((X :: N) ++ (O ++ L)) := List.perm_append_comm
  refine List.Perm.trans ?_ h1.symm
  show List.Perm (X :: _) (X :: (N ++ (O ++ L)))
  exact (List.perm_append_comm_assoc _ _ _).cons _
theorem it_get {V : World} {X : Pc} {D O N L : List Pc} (H : SL V (D ++ ((O ++ L) ++ (X :: N)))) : SL V (D ++ (O ++ (N ++ L))) := by
  have h1 : List.Perm ((O ++ L) ++ (X :: N)) (X :: (O ++ (N ++ L))) := by
    refine List.perm_append_comm.trans ?_
    show List.Perm (X :: (N ++ (O ++ L))) _
    exact (List.perm_append_comm_assoc _ _ _).cons _
  have h2 := (H.perm (h1.append_left D)).perm (List.perm_middle (a := X) (l₁ := D))
  exact h2.tail
theorem elemU : ElemK Try.prog 31 30 1 (.int .u64 0) 8 := ⟨by kernel_rfl, by kernel_rfl, rfl, by decide⟩
/-- Numbers of 64 bits as values. -/
def uv (l : List Int) : List Value := l.map fun z => .int .u64 z
def keysK (l : List Al) : List Int := l.map Al.key

section
variable {R : Int} {p : Nat} {s : Ck} {L : List Pc} {w : World}
/-- What the iterator needs of a clock's slice. -/
theorem sl_parts {sl : Value} {l : List Al} {L : List Pc} (H : SL w (.own 59 4 sl l.length (alC l) :: L)) : ∃ sa sc g, sl = .slice sa l.length sc ∧ (l.length ≠ 0 → sa = some ⟨g, 0, none⟩ ∧ l.length ≤ sc) := by
  have hown : OwnK w 0 59 4 sl l.length (alC l) := H.head
  rcases hown.form with ⟨rfl, e, -⟩ | ⟨g, cap, rfl, -, -, hnc, -⟩
  · exact ⟨none, 0, 0, by rw [e], fun h => absurd e h⟩
  · exact ⟨_, cap, g, rfl, fun _ => ⟨rfl, hnc⟩⟩

set_option maxHeartbeats 4000000 in
theorem keys_c (H0 : CAt R p s L w) :
    Calls Try.prog 18 #[ptrV p] w fun e w' => ∃ a c, e = .returned (.slice a s.l.length c) ∧ CAt R p s (.own 30 1 (.slice a s.l.length c) s.l.length (uv (keysK s.l)) :: L) w' := by
  have hno := Lib.hid (none_c H0)
  obtain ⟨sl, H, ok⟩ := H0
  obtain ⟨sa, sc, g, rfl, hsl⟩ := sl_parts (H.re (.step (.there (.here _ _)) (.same _)))
  obtain ⟨a, b, l⟩ := s
  dsimp only at *
  have hok := Lib.hid ok
  have hlen := ok.len
  dsimp only at hlen
  have hall := Lib.hid (fun V L' (h : SL V L') => all_c p V h)
  obtain ⟨n, hn⟩ : ∃ n, l.length = n := ⟨_, rfl⟩
  have hg := Lib.hid (fun B => all_gives B p a b sa sc g n (fun _ => l) (fun _ => hn) (by omega) (by rw [← hn]; exact hsl))
  have hn' := Lib.hid hn
  have hH := Lib.hid (show SL w (ckP p (.slice sa n sc) ⟨a, b, l⟩ ++ L) from by rw [hn] at H; exact H)
  rw [hn] at hlen hsl ⊢
  have hmx : Try.prog.follows .mixedOrders = true := by kernel_rfl
  clear H ok hn
  refine calls_of_marks Try.func18 rfl ?_
  simp only [Try.ntmps18, List.size_toArray, List.length_cons, List.length_nil, Nat.reduceAdd, Nat.reduceSub, Array.replicate_succ, Array.replicate_zero, List.push_toArray, List.append_toArray, List.nil_append, List.cons_append]
  unfold ptrV at *
  gi_wp2_with fail
  refine ⟨trivial, rfl, calls_in (hno.out.mono ?_)⟩
  rintro e w' ⟨rfl, rfl⟩
  clear hno
  gi_wp2_with fail
  have H1 := (hH.out.pure (q := .own 30 1 (.slice none 0 0) 0 []) (OwnK.nil _ _ _ _) fun b h => by cases h).alloc [.slice none 0 0] 31
  generalize w.alloc (.cells [Value.slice none 0 0].toArray 31) = w1 at *
  generalize w.heap.size = S at *
  refine ⟨trivial, rfl, calls_in ((hall.out _ _ H1).mono ?_)⟩
  rintro e w2 ⟨B, rfl, H2⟩
  have H3 := Lib.hid (it_put (N := ckP p (.slice sa n sc) ⟨a, b, l⟩) (O := [.blk S [.slice none 0 0] 31, .own 30 1 (.slice none 0 0) 0 []]) H2)
  clear H1 H2 hall hH
  gi_wp2_with fail
  refine wp_rangeS rfl egA (hg.out B) (by intro x hx; obtain ⟨k, _, rfl⟩ := List.mem_map.1 hx; rfl)
    (fun i L' => ∃ a c, L' = .blk S [.slice a i c] 31 :: .own 30 1 (.slice a i c) i (uv (keysK (l.take i))) :: L) (fun _ _ _ => False) (L0 := .blk S [.slice none 0 0] 31 :: .own 30 1 (.slice none 0 0) 0 [] :: L) ⟨none, 0, rfl⟩ H3.out ?_ ?_ ?_
  · rintro i hi V ll _ T ⟨oa, oc, rfl⟩ H
    have hi' : i < n := by rw [alX_length] at hi; exact hi
    rw [alX_at]
    have hil : i < l.length := by rw [hn'.out]; exact hi'
    obtain ⟨rfl, hnc⟩ := hsl (by omega)
    have hcell : Hid (∀ V (R : List Pc), SL V (.own 59 4 (.slice (some ⟨g, 0, none⟩) n sc) n (alC l) :: R) → V.cell? ⟨g, i * 4, none⟩ = some (.int .u64 (l[i]'hil).key)) := Lib.hid fun V R h => by
      rw [← hn'.out] at h
      obtain ⟨g', cap', e, -, h0, -⟩ := own_al h hil
      cases e
      exact h0
    have htk := Lib.hid (show uv (keysK (l.take (i + 1))) = uv (keysK (l.take i)) ++ [.int .u64 (l[i]'hil).key] from by rw [List.take_succ_eq_append_getElem hil]; unfold uv keysK; rw [List.map_append, List.map_append]; rfl)
    generalize (l[i]'hil).key = k at *
    clear H3 hg
    gi_wp2_with fail
    refine ⟨_, H, ?_⟩
    clear H
    intro V2 T2 H
    obtain ⟨Z, hZ⟩ : ∃ Z, L ++ (allP B p a b (.slice (some ⟨g, 0, none⟩) n sc) l ++ T2) = Z := ⟨_, rfl⟩
    have H : SL V2 (.blk S [.slice oa i oc] 31 :: .own 30 1 (.slice oa i oc) i (uv (keysK (l.take i))) :: Z) := by rw [← hZ]; exact H
    have hcz : Hid (∀ V A, SL V (A ++ Z) → V.cell? ⟨g, i * 4, none⟩ = some (.int .u64 k)) := Lib.hid fun V A h => by
      subst hZ
      have h2 := (h.re (re_right A _)).re (re_right L _)
      rw [← hn'.out] at hcell h2
      exact hcell.out V _ (SL.tail (SL.tail h2))
    have hZ' := Lib.hid hZ
    have hH := Lib.hid H
    have hlt := blk_lt (show V2.heap[S]? = some _ from H.head)
    generalize uv (keysK (l.take i)) = us at *
    clear H hcell hZ
    gi_wp2_with fail
    refine region_round (S := (fun W => W.cell? ⟨g, i * 4, none⟩ = some (.int .u64 k))) (fun _ w => ∃ a c, SL w (.blk S [.slice a (i + 1) c] 31 :: .own 30 1 (.slice a (i + 1) c) (i + 1) (us ++ [.int .u64 k]) :: Z)) (by kernel_rfl) (by kernel_rfl) ?_ (fun hHeld => ?_) ?_
    · exact hcz.out _ (_ :: _ :: []) hH.out.drew
    have H := hH.out.drew
    generalize World.drew V2 = w5 at *
    clear hH
    refine takeL (i := 1) rfl (by kernel_rfl) (by kernel_rfl) (by kernel_rfl) (fun _ _ _ _ h => h) hHeld ?_ (Or.inl ⟨by rfl, ?_⟩) ?_
    rotate_left
    · intro W hW
      (try dsimp only at hW)
      first | (go_simp; done) | (go_simp; with_reducible rfl)
    ((try simp only [Act.put]); (try simp only [List.setIfInBounds_toArray]); (try simp only [List.set_cons_succ]); (try simp only [List.set_cons_zero]))
    refine takeL (i := 2) rfl (by kernel_rfl) (by kernel_rfl) (by kernel_rfl) (fun _ _ _ _ h => h) hHeld ?_ (Or.inl ⟨by rfl, ?_⟩) ?_
    rotate_left
    · intro W hW
      (try dsimp only at hW)
      first | (go_simp; done) | (go_simp; with_reducible rfl)
    ((try simp only [Act.put]); (try simp only [List.setIfInBounds_toArray]); (try simp only [List.set_cons_succ]); (try simp only [List.set_cons_zero]))
    refine takeL (i := 3) rfl (by kernel_rfl) (by kernel_rfl) (by kernel_rfl) (fun _ _ _ _ h => h) hHeld ?_ (Or.inl ⟨by rfl, ?_⟩) ?_
    rotate_left
    · intro W hW
      (try dsimp only at hW)
      first | (go_simp; done) | (go_simp; with_reducible rfl)
    ((try simp only [Act.put]); (try simp only [List.setIfInBounds_toArray]); (try simp only [List.set_cons_succ]); (try simp only [List.set_cons_zero]))
    refine takeL (i := 4) rfl (by kernel_rfl) (by kernel_rfl) (by kernel_rfl) (fun _ _ _ _ h => h) hHeld ?_ (Or.inl ⟨by rfl, ?_⟩) ?_
    rotate_left
    · intro W hW
      (try dsimp only at hW)
      first | (go_simp; done) | (go_simp; with_reducible rfl)
    ((try simp only [Act.put]); (try simp only [List.setIfInBounds_toArray]); (try simp only [List.set_cons_succ]); (try simp only [List.set_cons_zero]))
    refine callL2 (i := 0) (j := 5) rfl rfl (by kernel_rfl) (fun K hK => ?_) (fun K hK => ?_)
    · rw [if_pos (by rfl)]
      have c0 := H.cell (b := S) (o := 0) (by first | exact .here _ _ | exact .there (.here _ _) | exact .there (.there (.here _ _)) | exact .there (.there (.there (.here _ _))) | exact .there (.there (.there (.there (.here _ _)))) | exact .there (.there (.there (.there (.there (.here _ _))))) | exact .there (.there (.there (.there (.there (.there (.here _ _)))))) | exact .there (.there (.there (.there (.there (.there (.there (.here _ _))))))) | exact .there (.there (.there (.there (.there (.there (.there (.there (.here _ _)))))))) | exact .there (.there (.there (.there (.there (.there (.there (.there (.there (.here _ _))))))))) | exact .there (.there (.there (.there (.there (.there (.there (.there (.there (.there (.here _ _)))))))))) | exact .there (.there (.there (.there (.there (.there (.there (.there (.there (.there (.there (.here _ _))))))))))) | exact .there (.there (.there (.there (.there (.there (.there (.there (.there (.there (.there (.there (.here _ _)))))))))))) | exact .there (.there (.there (.there (.there (.there (.there (.there (.there (.there (.there (.there (.there (.here _ _)))))))))))))) rfl
      go_simp
      clear c0 hHeld
      refine hK.out _ _ ?_ (fun hHeld => ?_)
      · first | exact hcz.out _ _ (show SL _ ((_ :: _ :: []) ++ Z) from H) | exact hcz.out _ _ (show SL _ ((_ :: _ :: _ :: []) ++ Z) from H)
      clear hK K
      ((try simp only [Act.put]); (try simp only [List.setIfInBounds_toArray]); (try simp only [List.set_cons_succ]); (try simp only [List.set_cons_zero]))
      refine callL (i := 5) rfl (by kernel_rfl) (fun K hK => ?_)
      rw [if_pos (by rfl)]
      go_simp
      have H' := H.alloc [.int .u64 k] 30
      clear H hHeld
      have H := H'
      clear H'
      generalize w5.alloc (.cells [Value.int .u64 k].toArray 30) = w6 at *
      generalize w5.heap.size = vb at *
      refine hK.out _ _ ?_ (fun hHeld => ?_)
      · first | exact hcz.out _ _ (show SL _ ((_ :: _ :: []) ++ Z) from H) | exact hcz.out _ _ (show SL _ ((_ :: _ :: _ :: []) ++ Z) from H)
      clear hK K
      ((try simp only [Act.put]); (try simp only [List.setIfInBounds_toArray]); (try simp only [List.set_cons_succ]); (try simp only [List.set_cons_zero]))
      refine callL (i := 6) rfl (by kernel_rfl) (fun K hK => ?_)
      rw [if_pos (by rfl)]
      have hrd : Rd w6 (some ⟨vb, 0, none⟩) [Value.int .u64 k].length (fun j => [Value.int .u64 k].getD j undef) := fun j hj => ⟨vb, 0, rfl, by
        obtain rfl : j = 0 := by simpa using hj
        exact H.cell (b := vb) (o := 0) (.here _ _) rfl⟩
      obtain ⟨v', w7, hrun, H7, -⟩ := SL.appended (P := Try.prog) (ty := 31) elemU (H.pull (.there (.there (.here _ _)))) (m := 1) (c := 1) (ys := [.int .u64 k]) rfl hrd (by simp [Value.oneCell']) (by simp only [maxLen]; omega) (by omega) (fun h => by cases h)
      obtain ⟨va, vc, rfl, -⟩ := OwnK.slice H7.head
      refine Lib.wp_append_run _ _ _ _ _ rfl (.slice oa i oc) (.slice (some ⟨vb, 0, none⟩) 1 1) rfl rfl _ _ hrun ?_
      clear H hHeld hrd hrun
      have H := H7.re (.step (.there (.there (.here _ _))) (.step (.here _ _) (.drop (.same _))))
      clear H7
      refine hK.out _ _ ?_ (fun hHeld => ?_)
      · first | exact hcz.out _ _ (show SL _ ((_ :: _ :: []) ++ Z) from H) | exact hcz.out _ _ (show SL _ ((_ :: _ :: _ :: []) ++ Z) from H)
      clear hK K
      ((try simp only [Act.put]); (try simp only [List.setIfInBounds_toArray]); (try simp only [List.set_cons_succ]); (try simp only [List.set_cons_zero]))
      refine callL (i := 7) rfl (by kernel_rfl) (fun K hK => ?_)
      rw [if_pos (by rfl)]
      have c0 := H.cell (b := S) (o := 0) (.here _ _) rfl
      have f0 := H.free (b := S) (.here _ _) 0
      go_simp
      have H' := H.setCell 0 (.slice va (i + 1) vc)
      clear H hHeld c0 f0
      have H := H'
      clear H'
      refine hK.out _ _ ?_ (fun hHeld => ?_)
      · first | exact hcz.out _ _ (show SL _ ((_ :: _ :: []) ++ Z) from H) | exact hcz.out _ _ (show SL _ ((_ :: _ :: _ :: []) ++ Z) from H)
      clear hK K
      ((try simp only [Act.put]); (try simp only [List.setIfInBounds_toArray]); (try simp only [List.set_cons_succ]); (try simp only [List.set_cons_zero]))
      refine wpAnyH_done (by kernel_rfl) ?_ _
      exact ⟨_, _, H⟩
    · rw [if_pos (by rfl)]
      go_simp
      have H' := H.alloc [.int .u64 k] 30
      clear H hHeld
      have H := H'
      clear H'
      generalize w5.alloc (.cells [Value.int .u64 k].toArray 30) = w6 at *
      generalize w5.heap.size = vb at *
      refine hK.out _ _ ?_ (fun hHeld => ?_)
      · first | exact hcz.out _ _ (show SL _ ((_ :: _ :: []) ++ Z) from H) | exact hcz.out _ _ (show SL _ ((_ :: _ :: _ :: []) ++ Z) from H)
      clear hK K
      ((try simp only [Act.put]); (try simp only [List.setIfInBounds_toArray]); (try simp only [List.set_cons_succ]); (try simp only [List.set_cons_zero]))
      refine callL (i := 0) rfl (by kernel_rfl) (fun K hK => ?_)
      rw [if_pos (by rfl)]
      have c0 := H.cell (b := S) (o := 0) (by first | exact .here _ _ | exact .there (.here _ _) | exact .there (.there (.here _ _)) | exact .there (.there (.there (.here _ _))) | exact .there (.there (.there (.there (.here _ _)))) | exact .there (.there (.there (.there (.there (.here _ _))))) | exact .there (.there (.there (.there (.there (.there (.here _ _)))))) | exact .there (.there (.there (.there (.there (.there (.there (.here _ _))))))) | exact .there (.there (.there (.there (.there (.there (.there (.there (.here _ _)))))))) | exact .there (.there (.there (.there (.there (.there (.there (.there (.there (.here _ _))))))))) | exact .there (.there (.there (.there (.there (.there (.there (.there (.there (.there (.here _ _)))))))))) | exact .there (.there (.there (.there (.there (.there (.there (.there (.there (.there (.there (.here _ _))))))))))) | exact .there (.there (.there (.there (.there (.there (.there (.there (.there (.there (.there (.there (.here _ _)))))))))))) | exact .there (.there (.there (.there (.there (.there (.there (.there (.there (.there (.there (.there (.there (.here _ _)))))))))))))) rfl
      go_simp
      clear c0 hHeld
      refine hK.out _ _ ?_ (fun hHeld => ?_)
      · first | exact hcz.out _ _ (show SL _ ((_ :: _ :: []) ++ Z) from H) | exact hcz.out _ _ (show SL _ ((_ :: _ :: _ :: []) ++ Z) from H)
      clear hK K
      ((try simp only [Act.put]); (try simp only [List.setIfInBounds_toArray]); (try simp only [List.set_cons_succ]); (try simp only [List.set_cons_zero]))
      refine callL (i := 6) rfl (by kernel_rfl) (fun K hK => ?_)
      rw [if_pos (by rfl)]
      have hrd : Rd w6 (some ⟨vb, 0, none⟩) [Value.int .u64 k].length (fun j => [Value.int .u64 k].getD j undef) := fun j hj => ⟨vb, 0, rfl, by
        obtain rfl : j = 0 := by simpa using hj
        exact H.cell (b := vb) (o := 0) (.here _ _) rfl⟩
      obtain ⟨v', w7, hrun, H7, -⟩ := SL.appended (P := Try.prog) (ty := 31) elemU (H.pull (.there (.there (.here _ _)))) (m := 1) (c := 1) (ys := [.int .u64 k]) rfl hrd (by simp [Value.oneCell']) (by simp only [maxLen]; omega) (by omega) (fun h => by cases h)
      obtain ⟨va, vc, rfl, -⟩ := OwnK.slice H7.head
      refine Lib.wp_append_run _ _ _ _ _ rfl (.slice oa i oc) (.slice (some ⟨vb, 0, none⟩) 1 1) rfl rfl _ _ hrun ?_
      clear H hHeld hrd hrun
      have H := H7.re (.step (.there (.there (.here _ _))) (.step (.here _ _) (.drop (.same _))))
      clear H7
      refine hK.out _ _ ?_ (fun hHeld => ?_)
      · first | exact hcz.out _ _ (show SL _ ((_ :: _ :: []) ++ Z) from H) | exact hcz.out _ _ (show SL _ ((_ :: _ :: _ :: []) ++ Z) from H)
      clear hK K
      ((try simp only [Act.put]); (try simp only [List.setIfInBounds_toArray]); (try simp only [List.set_cons_succ]); (try simp only [List.set_cons_zero]))
      refine callL (i := 7) rfl (by kernel_rfl) (fun K hK => ?_)
      rw [if_pos (by rfl)]
      have c0 := H.cell (b := S) (o := 0) (.here _ _) rfl
      have f0 := H.free (b := S) (.here _ _) 0
      go_simp
      have H' := H.setCell 0 (.slice va (i + 1) vc)
      clear H hHeld c0 f0
      have H := H'
      clear H'
      refine hK.out _ _ ?_ (fun hHeld => ?_)
      · first | exact hcz.out _ _ (show SL _ ((_ :: _ :: []) ++ Z) from H) | exact hcz.out _ _ (show SL _ ((_ :: _ :: _ :: []) ++ Z) from H)
      clear hK K
      ((try simp only [Act.put]); (try simp only [List.setIfInBounds_toArray]); (try simp only [List.set_cons_succ]); (try simp only [List.set_cons_zero]))
      refine wpAnyH_done (by kernel_rfl) ?_ _
      exact ⟨_, _, H⟩
    rintro act w8 ⟨a2, c2, H8⟩
    refine ⟨_, ⟨a2, c2, rfl⟩, ?_⟩
    rw [htk.out]
    rw [← hZ'.out] at H8
    exact H8
  · rintro V _ D ⟨oa, oc, rfl⟩ H
    rw [alX_length] at H
    have H' := (it_get (D := [.obj D (.deferred (some []))]) (O := [.blk S [.slice oa n oc] 31, .own 30 1 (.slice oa n oc) n (uv (keysK (l.take n)))]) (N := ckP p (.slice sa n sc) ⟨a, b, l⟩) (L := L) (by unfold ckP; rw [← hn'.out] at H ⊢; exact H))
    have z := H.cell (b := S) (o := 0) (.there (.here _ _)) rfl
    rw [show l.take n = l from by rw [← hn'.out, List.take_length]] at H'
    have H'' := Lib.hid H'
    clear H H3 hg H'
    gi_wp2_with fail
    refine leaveS (v := .slice oa n oc) H''.out ?_ ?_
    · intro V h
      simp [results, Try.results18, go_sem]
    · intro V h
      refine ⟨oa, oc, rfl, .slice sa n sc, ?_, hok.out⟩
      have h2 : SL V (.own 30 1 (.slice oa n oc) n (uv (keysK l)) :: (ckP p (.slice sa n sc) ⟨a, b, l⟩ ++ L)) := h.tail
      exact h2.perm List.perm_middle.symm
  · exact fun c i V L D h _ => h.elim
end
end Go.Proofs.Ytcjmkpphohkofaa
