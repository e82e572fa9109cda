/- The writer. -/
import Derived.Test.YtilpkfgdlehmpaaDoorForm
import Derived.Test.YtilpkfgdlehmpaaDoorOrderApp
import Derived.RangeFuncCalls
import Derived.Shelf.RegionOpen
import Derived.Lib.AppendZeros
namespace Go.Proofs.YtilpkfgdlehmpaaDoor
open Go.RowKit Go.Shelf
set_option linter.unusedVariables false
attribute [local go_sem] Oper.semAt_some

/-- The writer at p has written bs. -/
def WrAt (p : Nat) (bs : List Int) (L : List Pc) (w : World) : Prop := ∃ (a : Option Addr) (c : Nat),
  SL w (.blk p [.slice a bs.length c, .bool true, .bool false] 88 :: .own 5 1 (.slice a bs.length c) bs.length (bv bs) :: L)
theorem SL.dropEnd {w : World} {A L E : List Pc} (h : SL w (A ++ (L ++ E))) : SL w (A ++ L) :=
  have hs : (A ++ L).Sublist (A ++ (L ++ E)) := (List.Sublist.refl A).append (List.sublist_append_left L E)
  ⟨fun q hq => h.all q (hs.subset hq), h.apart.sublist hs⟩
section
variable {p : Nat} {bs : List Int} {L : List Pc} {w : World}
theorem WrAt.re {L' : List Pc} (H : WrAt p bs L w) (h : Re L L') : WrAt p bs L' w := by
  obtain ⟨a, c, hs⟩ := H
  exact ⟨a, c, hs.re (.step (.here _ _) (.step (.here _ _) h))⟩
theorem WrAt.sl (H : WrAt p bs L w) : SL w L := by
  obtain ⟨a, c, h⟩ := H
  exact h.tail.tail
theorem WrAt.alloc (H : WrAt p bs L w) (cs : List Value) (t : TypeId) : WrAt p bs (.blk w.heap.size cs t :: L) (w.alloc (.cells cs.toArray t)) := by
  obtain ⟨a, c, h⟩ := H
  exact ⟨a, c, (h.alloc cs t).re (.step (.there (.here _ _)) (.step (.there (.here _ _)) (.same _)))⟩
theorem WrAt.drew (H : WrAt p bs L w) : WrAt p bs L w.drew := by
  obtain ⟨a, c, h⟩ := H
  exact ⟨a, c, h.drew⟩
theorem WrAt.drewN (H : WrAt p bs L w) (k : Nat) : WrAt p bs L (w.drewN k) := by
  obtain ⟨a, c, h⟩ := H
  exact ⟨a, c, h.drewN k⟩
theorem neww_c (H : SL w L) : Calls Tryd.prog 24 #[] w fun e w' => ∃ p, e = .returned (ptrV p) ∧ WrAt p [] L w' := by
  have hf : Hid (WrAt w.heap.size [] L (w.alloc (.cells [.slice none 0 0, .bool true, .bool false].toArray 88))) := Lib.hid ⟨none, 0, ((H.alloc [.slice none 0 0, .bool true, .bool false] 88).pure (q := .own 5 1 (.slice none 0 0) 0 []) (OwnK.nil _ _ _ _) (fun b h => by cases h)).re (.step (.there (.here _ _)) (.same _))⟩
  clear H
  unfold ptrV
  go_enter Tryd.func24, Tryd.ntmps24
  go_wp2_with fail
  go_ret
  exact ⟨_, rfl, hf.out⟩
theorem fine_c (H : WrAt p bs L w) : Calls Tryd.prog 51 #[ptrV p] w fun e w' => e = .returned (.bool true) ∧ w = w' := by
  obtain ⟨a, c, h⟩ := H
  have c1 := h.cell (b := p) (o := 1) (.here _ _) rfl
  have c2 := h.cell (b := p) (o := 2) (.here _ _) rfl
  clear h
  unfold ptrV
  go_enter Tryd.func51, Tryd.ntmps51
  go_wp2_with fail
  go_ret
  exact ⟨rfl, rfl⟩

set_option maxRecDepth 100000 in
set_option maxHeartbeats 8000000 in
theorem wuint_c (H : WrAt p bs L w) (n : Nat) (hn : n < 18446744073709551616) (hb : bs.length ≤ 6000) :
    Calls Tryd.prog 27 #[ptrV p, .int .u64 (n : Int)] w fun e w' => (∃ v, e = .returned v) ∧ WrAt p (bs ++ nB n) L w' := by
  have hmx : Tryd.prog.follows .mixedOrders = true := by kernel_rfl
  have hl10 := nB_len64 hn
  have hgv := Lib.hid (fun B => form_gives n B hn)
  have H1 := Lib.hid (H.alloc [ptrV p] 49)
  clear H
  unfold ptrV at *
  refine calls_of_marks Tryd.func27 rfl ?_
  simp only [Tryd.ntmps27, List.size_toArray, List.length_cons, List.length_nil, Nat.reduceAdd, Nat.reduceSub, Array.replicate_succ, Array.replicate_zero, List.push_toArray, List.append_toArray, List.nil_append, List.cons_append]
  gi_wp2_with fail
  generalize w.alloc (.cells [Value.pointer (some ⟨p, 0, none⟩)].toArray 49) = w1 at *
  generalize w.heap.size = b2 at *
  have hfi := Lib.hid (fine_c H1.out)
  unfold ptrV at hfi
  refine ⟨trivial, rfl, calls_in (hfi.out.mono ?_)⟩
  rintro e w2 ⟨rfl, rfl⟩
  clear hfi
  obtain ⟨oa, oc, HS⟩ := H1.out
  have hfm := Lib.hid (form_c (n : Int) HS)
  clear H1 HS
  gi_wp2_with fail
  refine ⟨trivial, rfl, calls_in (hfm.out.mono ?_)⟩
  rintro e w3 ⟨B, rfl, H3⟩
  clear hfm
  have hq0 : Hid (qF n 0 = n) := Lib.hid (by unfold qF; simp)
  have H4 := Lib.hid (SL.comm (A := [_]) H3)
  clear H3
  rw [show ((n : Nat) : Int) = ((qF n 0 : Nat) : Int) from by rw [hq0.out]] at H4
  unfold ptrV at *
  gi_wp2_with fail
  refine wp_rangeS rfl egFm (hgv.out B) (by intro x hx; obtain ⟨k, _, rfl⟩ := List.mem_map.1 hx; rfl)
    (fun i L' => ∃ a c, L' = .blk p [.slice a (bs ++ (nB n).take i).length c, .bool true, .bool false] 88 :: .own 5 1 (.slice a (bs ++ (nB n).take i).length c) (bs ++ (nB n).take i).length (bv (bs ++ (nB n).take i)) :: .blk b2 [.pointer (some ⟨p, 0, none⟩)] 49 :: L)
    (fun _ _ _ => False) ⟨oa, oc, rfl⟩ (by rw [List.take_zero, List.append_nil]; exact H4.out) ?_ ?_ ?_
  · rintro i hi V ll _ T ⟨sa, sc, rfl⟩ H
    have hil : i < (nB n).length := by rw [fmX_length] at hi; exact hi
    have hx : (fmX n)[i]'hi = #[.int .u8 ((nB n)[i]'hil)] := by simp [fmX]
    rw [hx]
    have hnx := Lib.hid (show bs ++ (nB n).take (i + 1) = (bs ++ (nB n).take i) ++ [(nB n)[i]'hil] by rw [List.take_succ_eq_append_getElem hil, List.append_assoc])
    have hln : (bs ++ (nB n).take i).length = bs.length + i := by rw [List.length_append, List.length_take]; omega
    generalize (nB n)[i]'hil = ch at *
    generalize bs ++ (nB n).take i = l at *
    obtain ⟨m, hm⟩ : ∃ m, l.length = m := ⟨_, rfl⟩
    have hm' := Lib.hid hm
    rw [hm] at H hln
    have hml : m ≤ 6010 := by omega
    clear hx hm hln
    gi_wp2_with fail
    refine ⟨_, H, ?_⟩
    clear H H4
    intro V2 T2 H
    obtain ⟨ZZ, hZZ⟩ : ∃ ZZ, L ++ ([.blk B [.int .u64 (qF n i : Int)] 22] ++ T2) = ZZ := ⟨_, rfl⟩
    have hH : Hid (SL V2 (.blk p [.slice sa m sc, .bool true, .bool false] 88 :: .own 5 1 (.slice sa m sc) m (bv l) :: .blk b2 [.pointer (some ⟨p, 0, none⟩)] 49 :: ZZ)) := Lib.hid (by rw [← hZZ]; exact H)
    have hZZ' := Lib.hid hZZ
    clear H hZZ
    gi_wp2_with fail
    refine region_round (S := (fun W => W.cell? ⟨b2, 0, none⟩ = some (.pointer (some ⟨p, 0, none⟩)))) (fun _ w => ∃ a c, SL w (.blk p [.slice a (m + 1) c, .bool true, .bool false] 88 :: .own 5 1 (.slice a (m + 1) c) (m + 1) (bv (l ++ [ch])) :: .blk b2 [.pointer (some ⟨p, 0, none⟩)] 49 :: ZZ)) (by kernel_rfl) (by kernel_rfl) ?_ (fun hHeld => ?_) ?_
    · exact hH.out.drew.cell (b := b2) (o := 0) (.there (.there (.here _ _))) rfl
    have H := hH.out.drew
    generalize World.drew V2 = w5 at *
    clear hH
    refine takeL (i := 0) rfl (by kernel_rfl) (by kernel_rfl) (by kernel_rfl) (fun _ _ _ _ h => h) hHeld ?_ (Or.inl ⟨by rfl, ?_⟩) ?_
    rotate_left
    · intro W hW
      (try dsimp only at hW)
      first | (go_simp; done) | (go_simp; with_reducible rfl)
    ((try simp only [Act.put]); (try simp only [List.setIfInBounds_toArray]); (try simp only [List.set_cons_succ]); (try simp only [List.set_cons_zero]))
    refine takeL (i := 1) rfl (by kernel_rfl) (by kernel_rfl) (by kernel_rfl) (fun _ _ _ _ h => h) hHeld ?_ (Or.inl ⟨by rfl, ?_⟩) ?_
    rotate_left
    · intro W hW
      (try dsimp only at hW)
      first | (go_simp; done) | (go_simp; with_reducible rfl)
    ((try simp only [Act.put]); (try simp only [List.setIfInBounds_toArray]); (try simp only [List.set_cons_succ]); (try simp only [List.set_cons_zero]))
    refine takeL (i := 2) rfl (by kernel_rfl) (by kernel_rfl) (by kernel_rfl) (fun _ _ _ _ h => h) hHeld ?_ (Or.inl ⟨by rfl, ?_⟩) ?_
    rotate_left
    · intro W hW
      (try dsimp only at hW)
      first | (go_simp; done) | (go_simp; with_reducible rfl)
    ((try simp only [Act.put]); (try simp only [List.setIfInBounds_toArray]); (try simp only [List.set_cons_succ]); (try simp only [List.set_cons_zero]))
    refine takeL (i := 3) rfl (by kernel_rfl) (by kernel_rfl) (by kernel_rfl) (fun _ _ _ _ h => h) hHeld ?_ (Or.inl ⟨by rfl, ?_⟩) ?_
    rotate_left
    · intro W hW
      (try dsimp only at hW)
      first | (go_simp; done) | (go_simp; with_reducible rfl)
    ((try simp only [Act.put]); (try simp only [List.setIfInBounds_toArray]); (try simp only [List.set_cons_succ]); (try simp only [List.set_cons_zero]))
    refine takeL (i := 4) rfl (by kernel_rfl) (by kernel_rfl) (by kernel_rfl) (fun _ _ _ _ h => h) hHeld ?_ (Or.inl ⟨by rfl, ?_⟩) ?_
    rotate_left
    · intro W hW
      (try dsimp only at hW)
      first | (go_simp; done) | (go_simp; with_reducible rfl)
    ((try simp only [Act.put]); (try simp only [List.setIfInBounds_toArray]); (try simp only [List.set_cons_succ]); (try simp only [List.set_cons_zero]))
    refine takeL (i := 6) rfl (by kernel_rfl) (by kernel_rfl) (by kernel_rfl) (fun _ _ _ _ h => h) hHeld ?_ (Or.inl ⟨by rfl, ?_⟩) ?_
    rotate_left
    · intro W hW
      (try dsimp only at hW)
      first | (go_simp; done) | (go_simp; with_reducible rfl)
    ((try simp only [Act.put]); (try simp only [List.setIfInBounds_toArray]); (try simp only [List.set_cons_succ]); (try simp only [List.set_cons_zero]))
    refine callL2 (i := 5) (j := 7) rfl rfl (by kernel_rfl) (fun K hK => ?_) (fun K hK => ?_)
    · rw [if_pos (by rfl)]
      have c0 := H.cell (b := p) (o := 0) (by first | exact .here _ _ | exact .there (.here _ _) | exact .there (.there (.here _ _)) | exact .there (.there (.there (.here _ _))) | exact .there (.there (.there (.there (.here _ _)))) | exact .there (.there (.there (.there (.there (.here _ _))))) | exact .there (.there (.there (.there (.there (.there (.here _ _)))))) | exact .there (.there (.there (.there (.there (.there (.there (.here _ _))))))) | exact .there (.there (.there (.there (.there (.there (.there (.there (.here _ _)))))))) | exact .there (.there (.there (.there (.there (.there (.there (.there (.there (.here _ _))))))))) | exact .there (.there (.there (.there (.there (.there (.there (.there (.there (.there (.here _ _)))))))))) | exact .there (.there (.there (.there (.there (.there (.there (.there (.there (.there (.there (.here _ _))))))))))) | exact .there (.there (.there (.there (.there (.there (.there (.there (.there (.there (.there (.there (.here _ _)))))))))))) | exact .there (.there (.there (.there (.there (.there (.there (.there (.there (.there (.there (.there (.there (.here _ _)))))))))))))) rfl
      go_simp
      clear c0 hHeld
      refine hK.out _ _ ?_ (fun hHeld => ?_)
      · exact H.cell (b := b2) (o := 0) (by first | exact .here _ _ | exact .there (.here _ _) | exact .there (.there (.here _ _)) | exact .there (.there (.there (.here _ _))) | exact .there (.there (.there (.there (.here _ _)))) | exact .there (.there (.there (.there (.there (.here _ _))))) | exact .there (.there (.there (.there (.there (.there (.here _ _)))))) | exact .there (.there (.there (.there (.there (.there (.there (.here _ _))))))) | exact .there (.there (.there (.there (.there (.there (.there (.there (.here _ _)))))))) | exact .there (.there (.there (.there (.there (.there (.there (.there (.there (.here _ _))))))))) | exact .there (.there (.there (.there (.there (.there (.there (.there (.there (.there (.here _ _)))))))))) | exact .there (.there (.there (.there (.there (.there (.there (.there (.there (.there (.there (.here _ _))))))))))) | exact .there (.there (.there (.there (.there (.there (.there (.there (.there (.there (.there (.there (.here _ _)))))))))))) | exact .there (.there (.there (.there (.there (.there (.there (.there (.there (.there (.there (.there (.there (.here _ _)))))))))))))) rfl
      clear hK K
      ((try simp only [Act.put]); (try simp only [List.setIfInBounds_toArray]); (try simp only [List.set_cons_succ]); (try simp only [List.set_cons_zero]))
      refine callL (i := 7) rfl (by kernel_rfl) (fun K hK => ?_)
      rw [if_pos (by rfl)]
      go_simp
      have H' := H.alloc [.int .u8 ch] 5
      clear H hHeld
      have H := H'
      clear H'
      generalize w5.alloc (.cells [Value.int .u8 ch].toArray 5) = w6 at *
      generalize w5.heap.size = vb at *
      refine hK.out _ _ ?_ (fun hHeld => ?_)
      · exact H.cell (b := b2) (o := 0) (by first | exact .here _ _ | exact .there (.here _ _) | exact .there (.there (.here _ _)) | exact .there (.there (.there (.here _ _))) | exact .there (.there (.there (.there (.here _ _)))) | exact .there (.there (.there (.there (.there (.here _ _))))) | exact .there (.there (.there (.there (.there (.there (.here _ _)))))) | exact .there (.there (.there (.there (.there (.there (.there (.here _ _))))))) | exact .there (.there (.there (.there (.there (.there (.there (.there (.here _ _)))))))) | exact .there (.there (.there (.there (.there (.there (.there (.there (.there (.here _ _))))))))) | exact .there (.there (.there (.there (.there (.there (.there (.there (.there (.there (.here _ _)))))))))) | exact .there (.there (.there (.there (.there (.there (.there (.there (.there (.there (.there (.here _ _))))))))))) | exact .there (.there (.there (.there (.there (.there (.there (.there (.there (.there (.there (.there (.here _ _)))))))))))) | exact .there (.there (.there (.there (.there (.there (.there (.there (.there (.there (.there (.there (.there (.here _ _)))))))))))))) rfl
      clear hK K
      ((try simp only [Act.put]); (try simp only [List.setIfInBounds_toArray]); (try simp only [List.set_cons_succ]); (try simp only [List.set_cons_zero]))
      refine callL (i := 8) rfl (by kernel_rfl) (fun K hK => ?_)
      rw [if_pos (by rfl)]
      have hrd : Rd w6 (some ⟨vb, 0, none⟩) [Value.int .u8 ch].length (fun j => [Value.int .u8 ch].getD j undef) := fun j hj => ⟨vb, 0, rfl, by
        obtain rfl : j = 0 := by simpa using hj
        exact H.cell (b := vb) (o := 0) (.here _ _) rfl⟩
      obtain ⟨v', w7, hrun, H7, -⟩ := SL.appended (P := Tryd.prog) (ty := 23) elemB (H.pull (.there (.there (.here _ _)))) (m := 1) (c := 1) (ys := [.int .u8 ch]) rfl hrd (by simp [Value.oneCell']) (by simp only [maxLen]; omega) (by omega) (fun h => by cases h)
      obtain ⟨va, vc, rfl, -⟩ := OwnK.slice H7.head
      refine Lib.wp_append_run _ _ _ _ _ rfl (.slice sa m sc) (.slice (some ⟨vb, 0, none⟩) 1 1) rfl rfl _ _ hrun ?_
      clear H hHeld hrd hrun
      have H := H7.re (.step (.there (.there (.here _ _))) (.step (.here _ _) (.drop (.same _))))
      clear H7
      refine hK.out _ _ ?_ (fun hHeld => ?_)
      · exact H.cell (b := b2) (o := 0) (by first | exact .here _ _ | exact .there (.here _ _) | exact .there (.there (.here _ _)) | exact .there (.there (.there (.here _ _))) | exact .there (.there (.there (.there (.here _ _)))) | exact .there (.there (.there (.there (.there (.here _ _))))) | exact .there (.there (.there (.there (.there (.there (.here _ _)))))) | exact .there (.there (.there (.there (.there (.there (.there (.here _ _))))))) | exact .there (.there (.there (.there (.there (.there (.there (.there (.here _ _)))))))) | exact .there (.there (.there (.there (.there (.there (.there (.there (.there (.here _ _))))))))) | exact .there (.there (.there (.there (.there (.there (.there (.there (.there (.there (.here _ _)))))))))) | exact .there (.there (.there (.there (.there (.there (.there (.there (.there (.there (.there (.here _ _))))))))))) | exact .there (.there (.there (.there (.there (.there (.there (.there (.there (.there (.there (.there (.here _ _)))))))))))) | exact .there (.there (.there (.there (.there (.there (.there (.there (.there (.there (.there (.there (.there (.here _ _)))))))))))))) rfl
      clear hK K
      ((try simp only [Act.put]); (try simp only [List.setIfInBounds_toArray]); (try simp only [List.set_cons_succ]); (try simp only [List.set_cons_zero]))
      refine takeL (i := 9) rfl (by kernel_rfl) (by kernel_rfl) (by kernel_rfl) (fun _ _ _ _ h => h) hHeld ?_ (Or.inl ⟨by rfl, ?_⟩) ?_
      rotate_left
      · intro W hW
        (try dsimp only at hW)
        first | (go_simp; done) | (go_simp; with_reducible rfl)
      ((try simp only [Act.put]); (try simp only [List.setIfInBounds_toArray]); (try simp only [List.set_cons_succ]); (try simp only [List.set_cons_zero]))
      refine takeL (i := 10) rfl (by kernel_rfl) (by kernel_rfl) (by kernel_rfl) (fun _ _ _ _ h => h) hHeld ?_ (Or.inl ⟨by rfl, ?_⟩) ?_
      rotate_left
      · intro W hW
        (try dsimp only at hW)
        first | (go_simp; done) | (go_simp; with_reducible rfl)
      ((try simp only [Act.put]); (try simp only [List.setIfInBounds_toArray]); (try simp only [List.set_cons_succ]); (try simp only [List.set_cons_zero]))
      refine takeL (i := 11) rfl (by kernel_rfl) (by kernel_rfl) (by kernel_rfl) (fun _ _ _ _ h => h) hHeld ?_ (Or.inl ⟨by rfl, ?_⟩) ?_
      rotate_left
      · intro W hW
        (try dsimp only at hW)
        first | (go_simp; done) | (go_simp; with_reducible rfl)
      ((try simp only [Act.put]); (try simp only [List.setIfInBounds_toArray]); (try simp only [List.set_cons_succ]); (try simp only [List.set_cons_zero]))
      refine callL (i := 12) rfl (by kernel_rfl) (fun K hK => ?_)
      rw [if_pos (by rfl)]
      have c0 := H.cell (b := p) (o := 0) (.here _ _) rfl
      have f0 := H.free (b := p) (.here _ _) 0
      go_simp
      have H' := H.setCell 0 (.slice va (m + 1) vc)
      clear H hHeld c0 f0
      have H := H'
      clear H'
      refine hK.out _ _ ?_ (fun hHeld => ?_)
      · exact H.cell (b := b2) (o := 0) (by first | exact .here _ _ | exact .there (.here _ _) | exact .there (.there (.here _ _)) | exact .there (.there (.there (.here _ _))) | exact .there (.there (.there (.there (.here _ _)))) | exact .there (.there (.there (.there (.there (.here _ _))))) | exact .there (.there (.there (.there (.there (.there (.here _ _)))))) | exact .there (.there (.there (.there (.there (.there (.there (.here _ _))))))) | exact .there (.there (.there (.there (.there (.there (.there (.there (.here _ _)))))))) | exact .there (.there (.there (.there (.there (.there (.there (.there (.there (.here _ _))))))))) | exact .there (.there (.there (.there (.there (.there (.there (.there (.there (.there (.here _ _)))))))))) | exact .there (.there (.there (.there (.there (.there (.there (.there (.there (.there (.there (.here _ _))))))))))) | exact .there (.there (.there (.there (.there (.there (.there (.there (.there (.there (.there (.there (.here _ _)))))))))))) | exact .there (.there (.there (.there (.there (.there (.there (.there (.there (.there (.there (.there (.there (.here _ _)))))))))))))) rfl
      clear hK K
      ((try simp only [Act.put]); (try simp only [List.setIfInBounds_toArray]); (try simp only [List.set_cons_succ]); (try simp only [List.set_cons_zero]))
      refine wpAnyH_done (by kernel_rfl) ?_ _
      exact ⟨va, vc, by rw [bv_append]; exact H⟩
    · rw [if_pos (by rfl)]
      go_simp
      have H' := H.alloc [.int .u8 ch] 5
      clear H hHeld
      have H := H'
      clear H'
      generalize w5.alloc (.cells [Value.int .u8 ch].toArray 5) = w6 at *
      generalize w5.heap.size = vb at *
      refine hK.out _ _ ?_ (fun hHeld => ?_)
      · exact H.cell (b := b2) (o := 0) (by first | exact .here _ _ | exact .there (.here _ _) | exact .there (.there (.here _ _)) | exact .there (.there (.there (.here _ _))) | exact .there (.there (.there (.there (.here _ _)))) | exact .there (.there (.there (.there (.there (.here _ _))))) | exact .there (.there (.there (.there (.there (.there (.here _ _)))))) | exact .there (.there (.there (.there (.there (.there (.there (.here _ _))))))) | exact .there (.there (.there (.there (.there (.there (.there (.there (.here _ _)))))))) | exact .there (.there (.there (.there (.there (.there (.there (.there (.there (.here _ _))))))))) | exact .there (.there (.there (.there (.there (.there (.there (.there (.there (.there (.here _ _)))))))))) | exact .there (.there (.there (.there (.there (.there (.there (.there (.there (.there (.there (.here _ _))))))))))) | exact .there (.there (.there (.there (.there (.there (.there (.there (.there (.there (.there (.there (.here _ _)))))))))))) | exact .there (.there (.there (.there (.there (.there (.there (.there (.there (.there (.there (.there (.there (.here _ _)))))))))))))) rfl
      clear hK K
      ((try simp only [Act.put]); (try simp only [List.setIfInBounds_toArray]); (try simp only [List.set_cons_succ]); (try simp only [List.set_cons_zero]))
      refine callL (i := 5) rfl (by kernel_rfl) (fun K hK => ?_)
      rw [if_pos (by rfl)]
      have c0 := H.cell (b := p) (o := 0) (by first | exact .here _ _ | exact .there (.here _ _) | exact .there (.there (.here _ _)) | exact .there (.there (.there (.here _ _))) | exact .there (.there (.there (.there (.here _ _)))) | exact .there (.there (.there (.there (.there (.here _ _))))) | exact .there (.there (.there (.there (.there (.there (.here _ _)))))) | exact .there (.there (.there (.there (.there (.there (.there (.here _ _))))))) | exact .there (.there (.there (.there (.there (.there (.there (.there (.here _ _)))))))) | exact .there (.there (.there (.there (.there (.there (.there (.there (.there (.here _ _))))))))) | exact .there (.there (.there (.there (.there (.there (.there (.there (.there (.there (.here _ _)))))))))) | exact .there (.there (.there (.there (.there (.there (.there (.there (.there (.there (.there (.here _ _))))))))))) | exact .there (.there (.there (.there (.there (.there (.there (.there (.there (.there (.there (.there (.here _ _)))))))))))) | exact .there (.there (.there (.there (.there (.there (.there (.there (.there (.there (.there (.there (.there (.here _ _)))))))))))))) rfl
      go_simp
      clear c0 hHeld
      refine hK.out _ _ ?_ (fun hHeld => ?_)
      · exact H.cell (b := b2) (o := 0) (by first | exact .here _ _ | exact .there (.here _ _) | exact .there (.there (.here _ _)) | exact .there (.there (.there (.here _ _))) | exact .there (.there (.there (.there (.here _ _)))) | exact .there (.there (.there (.there (.there (.here _ _))))) | exact .there (.there (.there (.there (.there (.there (.here _ _)))))) | exact .there (.there (.there (.there (.there (.there (.there (.here _ _))))))) | exact .there (.there (.there (.there (.there (.there (.there (.there (.here _ _)))))))) | exact .there (.there (.there (.there (.there (.there (.there (.there (.there (.here _ _))))))))) | exact .there (.there (.there (.there (.there (.there (.there (.there (.there (.there (.here _ _)))))))))) | exact .there (.there (.there (.there (.there (.there (.there (.there (.there (.there (.there (.here _ _))))))))))) | exact .there (.there (.there (.there (.there (.there (.there (.there (.there (.there (.there (.there (.here _ _)))))))))))) | exact .there (.there (.there (.there (.there (.there (.there (.there (.there (.there (.there (.there (.there (.here _ _)))))))))))))) rfl
      clear hK K
      ((try simp only [Act.put]); (try simp only [List.setIfInBounds_toArray]); (try simp only [List.set_cons_succ]); (try simp only [List.set_cons_zero]))
      refine callL (i := 8) rfl (by kernel_rfl) (fun K hK => ?_)
      rw [if_pos (by rfl)]
      have hrd : Rd w6 (some ⟨vb, 0, none⟩) [Value.int .u8 ch].length (fun j => [Value.int .u8 ch].getD j undef) := fun j hj => ⟨vb, 0, rfl, by
        obtain rfl : j = 0 := by simpa using hj
        exact H.cell (b := vb) (o := 0) (.here _ _) rfl⟩
      obtain ⟨v', w7, hrun, H7, -⟩ := SL.appended (P := Tryd.prog) (ty := 23) elemB (H.pull (.there (.there (.here _ _)))) (m := 1) (c := 1) (ys := [.int .u8 ch]) rfl hrd (by simp [Value.oneCell']) (by simp only [maxLen]; omega) (by omega) (fun h => by cases h)
      obtain ⟨va, vc, rfl, -⟩ := OwnK.slice H7.head
      refine Lib.wp_append_run _ _ _ _ _ rfl (.slice sa m sc) (.slice (some ⟨vb, 0, none⟩) 1 1) rfl rfl _ _ hrun ?_
      clear H hHeld hrd hrun
      have H := H7.re (.step (.there (.there (.here _ _))) (.step (.here _ _) (.drop (.same _))))
      clear H7
      refine hK.out _ _ ?_ (fun hHeld => ?_)
      · exact H.cell (b := b2) (o := 0) (by first | exact .here _ _ | exact .there (.here _ _) | exact .there (.there (.here _ _)) | exact .there (.there (.there (.here _ _))) | exact .there (.there (.there (.there (.here _ _)))) | exact .there (.there (.there (.there (.there (.here _ _))))) | exact .there (.there (.there (.there (.there (.there (.here _ _)))))) | exact .there (.there (.there (.there (.there (.there (.there (.here _ _))))))) | exact .there (.there (.there (.there (.there (.there (.there (.there (.here _ _)))))))) | exact .there (.there (.there (.there (.there (.there (.there (.there (.there (.here _ _))))))))) | exact .there (.there (.there (.there (.there (.there (.there (.there (.there (.there (.here _ _)))))))))) | exact .there (.there (.there (.there (.there (.there (.there (.there (.there (.there (.there (.here _ _))))))))))) | exact .there (.there (.there (.there (.there (.there (.there (.there (.there (.there (.there (.there (.here _ _)))))))))))) | exact .there (.there (.there (.there (.there (.there (.there (.there (.there (.there (.there (.there (.there (.here _ _)))))))))))))) rfl
      clear hK K
      ((try simp only [Act.put]); (try simp only [List.setIfInBounds_toArray]); (try simp only [List.set_cons_succ]); (try simp only [List.set_cons_zero]))
      refine takeL (i := 9) rfl (by kernel_rfl) (by kernel_rfl) (by kernel_rfl) (fun _ _ _ _ h => h) hHeld ?_ (Or.inl ⟨by rfl, ?_⟩) ?_
      rotate_left
      · intro W hW
        (try dsimp only at hW)
        first | (go_simp; done) | (go_simp; with_reducible rfl)
      ((try simp only [Act.put]); (try simp only [List.setIfInBounds_toArray]); (try simp only [List.set_cons_succ]); (try simp only [List.set_cons_zero]))
      refine takeL (i := 10) rfl (by kernel_rfl) (by kernel_rfl) (by kernel_rfl) (fun _ _ _ _ h => h) hHeld ?_ (Or.inl ⟨by rfl, ?_⟩) ?_
      rotate_left
      · intro W hW
        (try dsimp only at hW)
        first | (go_simp; done) | (go_simp; with_reducible rfl)
      ((try simp only [Act.put]); (try simp only [List.setIfInBounds_toArray]); (try simp only [List.set_cons_succ]); (try simp only [List.set_cons_zero]))
      refine takeL (i := 11) rfl (by kernel_rfl) (by kernel_rfl) (by kernel_rfl) (fun _ _ _ _ h => h) hHeld ?_ (Or.inl ⟨by rfl, ?_⟩) ?_
      rotate_left
      · intro W hW
        (try dsimp only at hW)
        first | (go_simp; done) | (go_simp; with_reducible rfl)
      ((try simp only [Act.put]); (try simp only [List.setIfInBounds_toArray]); (try simp only [List.set_cons_succ]); (try simp only [List.set_cons_zero]))
      refine callL (i := 12) rfl (by kernel_rfl) (fun K hK => ?_)
      rw [if_pos (by rfl)]
      have c0 := H.cell (b := p) (o := 0) (.here _ _) rfl
      have f0 := H.free (b := p) (.here _ _) 0
      go_simp
      have H' := H.setCell 0 (.slice va (m + 1) vc)
      clear H hHeld c0 f0
      have H := H'
      clear H'
      refine hK.out _ _ ?_ (fun hHeld => ?_)
      · exact H.cell (b := b2) (o := 0) (by first | exact .here _ _ | exact .there (.here _ _) | exact .there (.there (.here _ _)) | exact .there (.there (.there (.here _ _))) | exact .there (.there (.there (.there (.here _ _)))) | exact .there (.there (.there (.there (.there (.here _ _))))) | exact .there (.there (.there (.there (.there (.there (.here _ _)))))) | exact .there (.there (.there (.there (.there (.there (.there (.here _ _))))))) | exact .there (.there (.there (.there (.there (.there (.there (.there (.here _ _)))))))) | exact .there (.there (.there (.there (.there (.there (.there (.there (.there (.here _ _))))))))) | exact .there (.there (.there (.there (.there (.there (.there (.there (.there (.there (.here _ _)))))))))) | exact .there (.there (.there (.there (.there (.there (.there (.there (.there (.there (.there (.here _ _))))))))))) | exact .there (.there (.there (.there (.there (.there (.there (.there (.there (.there (.there (.there (.here _ _)))))))))))) | exact .there (.there (.there (.there (.there (.there (.there (.there (.there (.there (.there (.there (.there (.here _ _)))))))))))))) rfl
      clear hK K
      ((try simp only [Act.put]); (try simp only [List.setIfInBounds_toArray]); (try simp only [List.set_cons_succ]); (try simp only [List.set_cons_zero]))
      refine wpAnyH_done (by kernel_rfl) ?_ _
      exact ⟨va, vc, by rw [bv_append]; exact H⟩
    rintro act w8 ⟨a3, c3, H8⟩
    refine ⟨_, ⟨a3, c3, rfl⟩, ?_⟩
    rw [hnx.out, List.length_append, hm'.out]
    rw [← hZZ'.out] at H8
    exact H8
  · rintro V _ D ⟨sa, sc, rfl⟩ H
    rw [fmX_length, List.take_length] at H
    have H' : Hid (SL V (.obj D (.deferred (some [])) :: .blk p [.slice sa (bs ++ nB n).length sc, .bool true, .bool false] 88 :: .own 5 1 (.slice sa (bs ++ nB n).length sc) (bs ++ nB n).length (bv (bs ++ nB n)) :: L)) := Lib.hid
      (SL.dropEnd (A := [.obj D (.deferred (some [])), .blk p [.slice sa (bs ++ nB n).length sc, .bool true, .bool false] 88, .own 5 1 (.slice sa (bs ++ nB n).length sc) (bs ++ nB n).length (bv (bs ++ nB n))]) (H.re (.step (.here _ _) (.step (.here _ _) (.step (.here _ _) (.drop (.same _)))))))
    clear H H4 hgv
    gi_wp2_with fail
    refine leaveS (v := .tuple #[]) H'.out ?_ ?_
    · intro V h
      simp [results, Tryd.results27, go_sem]
    · intro V h
      exact ⟨⟨_, rfl⟩, sa, sc, h⟩
  · exact fun c i V L D h _ => h.elim
end
end Go.Proofs.YtilpkfgdlehmpaaDoor
