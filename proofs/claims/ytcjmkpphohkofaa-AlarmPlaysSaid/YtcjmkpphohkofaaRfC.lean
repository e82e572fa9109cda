/- The reference's Calm, Drop, Below. -/
import Derived.Test.YtcjmkpphohkofaaRfB
namespace Go.Proofs.Ytcjmkpphohkofaa
open Go.RowKit Go.Shelf
set_option linter.unusedVariables false

section
variable {R : Int} {y : Nat} {s : Ck} {L : List Pc} {w : World}
theorem nd_ne {ol : List Al} (h : (keysK ol).Nodup) {i m : Nat} (hi : i < ol.length) (hm : m < ol.length) (he : (ol[m]'hm).key = (ol[i]'hi).key) : m = i := by
  have h1 : (keysK ol)[m]'(by simpa [keysK] using hm) = (keysK ol)[i]'(by simpa [keysK] using hi) := by simpa [keysK] using he
  exact (List.getElem_inj h).1 h1
theorem calm_perm {now : Nat} {ol : List Al} (ok : RfOk R s now ol) {i : Nat} (hi : i < ol.length) {k : Int} (hk : (ol[i]'hi).key = k) :
    RfOk R (calmS s k) now (ol.set i ⟨(ol[i]'hi).key, s.a, now + s.a, (ol[i]'hi).rung⟩) := by
  refine ⟨ok.1, ?_, ok.2.2.calm k⟩
  have e : (ol.set i ⟨(ol[i]'hi).key, s.a, now + s.a, (ol[i]'hi).rung⟩).map (decA now) = (ol.map (decA now)).map (calmA k s.a) := by
    apply List.ext_getElem (by simp)
    intro m h1 h2
    simp only [List.getElem_map, List.getElem_set]
    split
    · rename_i e
      subst e
      unfold calmA decA
      dsimp only
      rw [if_pos hk]
      congr 1
      omega
    · rename_i e
      have hm : m < ol.length := by simpa using h2
      unfold calmA
      rw [if_neg (fun h => e (nd_ne ok.nd hi hm (by rw [hk]; exact h)).symm)]
  rw [e]
  exact ok.2.1.map _
theorem drop_perm {now : Nat} {ol : List Al} (ok : RfOk R s now ol) {i : Nat} (hi : i < ol.length) {k : Int} (hk : (ol[i]'hi).key = k) :
    RfOk R (dropS s k) now (ol.take i ++ ol.drop (i + 1)) := by
  refine ⟨ok.1, ?_, ok.2.2.filter _⟩
  have h1 : ol.filter (fun x => !decide (x.key = k)) = ol.take i ++ ol.drop (i + 1) := by
    conv => lhs; rw [split_at ol hi]
    rw [List.filter_append, List.filter_cons, filter_all, filter_all]
    · simp [hk]
    · intro x hx
      obtain ⟨j, hj, rfl⟩ := List.getElem_of_mem hx
      rw [List.length_drop] at hj
      simp only [List.getElem_drop, Bool.not_eq_true', decide_eq_false_iff_not]
      intro e
      have := nd_ne ok.nd hi (m := i + 1 + j) (by omega) (by rw [hk]; exact e)
      omega
    · intro x hx
      obtain ⟨j, hj, rfl⟩ := List.getElem_of_mem hx
      rw [List.length_take] at hj
      simp only [List.getElem_take, Bool.not_eq_true', decide_eq_false_iff_not]
      intro e
      have := nd_ne ok.nd hi (m := j) (by omega) (by rw [hk]; exact e)
      omega
  rw [← h1]
  have h2 := ok.2.1.filter (fun x => !decide (x.key = k))
  rw [List.filter_map] at h2
  exact h2
theorem below_perm {now : Nat} {ol : List Al} (ok : RfOk R s now ol) (k : Int) : RfOk R (belowS s k) now (fromK ol k) := by
  refine ⟨ok.1, ?_, ok.2.2.filter _⟩
  have h2 := ok.2.1.filter (fun x => !decide (x.key < k))
  rw [List.filter_map] at h2
  exact h2

set_option maxRecDepth 100000 in
set_option maxHeartbeats 8000000 in
theorem rcalm_c (H : RF R y s L w) (hR : R ≤ 1000000000) (k : Int) :
    Calls Try.prog 38 #[ptrV y, .int .u64 k] w fun e w' => e = .returned (.int .i64 (hasE s k)) ∧ RF R y (calmS s k) L w' := by
  obtain ⟨now, sl, ol, HS, ok⟩ := H
  have hlen : ol.length ≤ 256 := by rw [ok.len]; exact ok.2.2.len
  have hat := Lib.hid (at_c HS hlen k)
  have hH := Lib.hid HS
  have hok := Lib.hid ok
  cases hh : hasK s.l k with
  | false =>
    have hno : k ∉ keysK ol := fun h => by rw [ok.has.2 h] at hh; cases hh
    have he : Hid (hasE s k = 200 ∧ calmS s k = s) := Lib.hid ⟨by unfold hasE; rw [hh]; rfl, by unfold calmS; rw [calmK_no hh]⟩
    rw [he.out.1, he.out.2]
    clear HS ok hh he
    unfold ptrV at *
    go_enter Try.func38, Try.ntmps38
    go_wp2_with fail
    refine hat.out.mono ?_
    rintro e w2 ⟨r, rfl, rfl, hr⟩
    obtain rfl := atis_no hr hno
    clear hat hr hno
    go_wp2_with fail
    go_ret
    exact ⟨rfl, _, _, _, hH.out, hok.out⟩
  | true =>
    have hyes := ok.has.1 hh
    have he : Hid (hasE s k = 0) := Lib.hid (by unfold hasE; rw [if_pos hh])
    rw [he.out]
    have hnow := ok.1
    have ha := ok.2.2.a
    have hbb := ok.2.2.b
    clear HS ok hh he
    unfold ptrV at *
    go_enter Try.func38, Try.ntmps38
    go_wp2_with fail
    refine hat.out.mono ?_
    rintro e w2 ⟨r, rfl, rfl, hr⟩
    obtain ⟨i, hi, rfl, hk⟩ := atis_yes hr hyes
    obtain ⟨g, sc, rfl, hsc, -⟩ := own_alE (hH.out.re (.step (.there (.here _ _)) (.same _))) hi
    have hcp := Lib.hid (calm_perm hok.out hi hk)
    have hset : Hid (((alC ol).set (i * 4 + 1) (.int .i64 s.a)).set (i * 4 + 2) (.int .i64 (now + s.a)) = alC (ol.set i ⟨(ol[i]'hi).key, s.a, now + s.a, (ol[i]'hi).rung⟩)) := Lib.hid (by
      rw [alC_set hi 1 (by omega) _ ⟨(ol[i]'hi).key, s.a, (ol[i]'hi).left, (ol[i]'hi).rung⟩ rfl, alC_set (l := ol.set i _) (by simpa using hi) 2 (by omega) _ ⟨(ol[i]'hi).key, s.a, now + s.a, (ol[i]'hi).rung⟩ (by rw [List.getElem_set_self]; rfl), List.set_set])
    obtain ⟨nl, hnl⟩ : ∃ nl, ol.set i ⟨(ol[i]'hi).key, s.a, now + s.a, (ol[i]'hi).rung⟩ = nl := ⟨_, rfl⟩
    have hnll : nl.length = ol.length := by rw [← hnl, List.length_set]
    rw [hnl] at hcp hset
    unfold rfP at hH
    obtain ⟨n, hn⟩ : ∃ n, ol.length = n := ⟨_, rfl⟩
    have hfin : Hid (∀ V, SL V (.own 73 4 (.slice (some ⟨g, 0, none⟩) n sc) n (((alC ol).set (i * 4 + 1) (.int .i64 s.a)).set (i * 4 + 2) (.int .i64 (now + s.a))) :: .blk y [.int .i64 s.a, .int .i64 s.b, .int .i64 now, .slice (some ⟨g, 0, none⟩) n sc] 71 :: L) → RF R y (calmS s k) L V) := Lib.hid fun V h => ⟨now, .slice (some ⟨g, 0, none⟩) n sc, nl, by
      unfold rfP calmS
      dsimp only
      rw [hnll, hn, ← hset.out]
      exact h.re (.step (.there (.here _ _)) (.same _)), hcp.out⟩
    rw [hn] at hH hsc hi
    have hH := Lib.hid (hH.out.re (.step (.there (.here _ _)) (.step (.here _ _) (.same _))) : SL w (.own 73 4 (.slice (some ⟨g, 0, none⟩) n sc) n (alC ol) :: .blk y [.int .i64 s.a, .int .i64 s.b, .int .i64 now, .slice (some ⟨g, 0, none⟩) n sc] 71 :: L))
    clear hat hr hyes hk hok hset hcp hnl hnll hn hlen
    generalize s.a = a at *
    generalize s.b = b at *
    generalize alC ol = xs at *
    have hwr : IntKind.i64.wrap ((now : Int) + a) = (now : Int) + a := IntWalk.i64_in _ ⟨by omega, by omega⟩
    have hi1 : i + 1 ≤ sc := by omega
    go_upto_region 4 with (fail)
    refine wp_region_held_drew (S := (fun W => W.cell? ⟨y, 0, none⟩ = some (.int .i64 a) ∧ W.cell? ⟨y, 3, none⟩ = some (.slice (some ⟨g, 0, none⟩) n sc))) (by kernel_rfl) ?_ (fun hHeld => ?_)
    · have H := hH.out.drew
      exact ⟨H.cell (b := y) (o := 0) (by first | exact .here _ _ | exact .there (.here _ _) | exact .there (.there (.here _ _)) | exact .there (.there (.there (.here _ _))) | exact .there (.there (.there (.there (.here _ _)))) | exact .there (.there (.there (.there (.there (.here _ _))))) | exact .there (.there (.there (.there (.there (.there (.here _ _)))))) | exact .there (.there (.there (.there (.there (.there (.there (.here _ _))))))) | exact .there (.there (.there (.there (.there (.there (.there (.there (.here _ _)))))))) | exact .there (.there (.there (.there (.there (.there (.there (.there (.there (.here _ _))))))))) | exact .there (.there (.there (.there (.there (.there (.there (.there (.there (.there (.here _ _)))))))))) | exact .there (.there (.there (.there (.there (.there (.there (.there (.there (.there (.there (.here _ _))))))))))) | exact .there (.there (.there (.there (.there (.there (.there (.there (.there (.there (.there (.there (.here _ _)))))))))))) | exact .there (.there (.there (.there (.there (.there (.there (.there (.there (.there (.there (.there (.there (.here _ _)))))))))))))) rfl, H.cell (b := y) (o := 3) (by first | exact .here _ _ | exact .there (.here _ _) | exact .there (.there (.here _ _)) | exact .there (.there (.there (.here _ _))) | exact .there (.there (.there (.there (.here _ _)))) | exact .there (.there (.there (.there (.there (.here _ _))))) | exact .there (.there (.there (.there (.there (.there (.here _ _)))))) | exact .there (.there (.there (.there (.there (.there (.there (.here _ _))))))) | exact .there (.there (.there (.there (.there (.there (.there (.there (.here _ _)))))))) | exact .there (.there (.there (.there (.there (.there (.there (.there (.there (.here _ _))))))))) | exact .there (.there (.there (.there (.there (.there (.there (.there (.there (.there (.here _ _)))))))))) | exact .there (.there (.there (.there (.there (.there (.there (.there (.there (.there (.there (.here _ _))))))))))) | exact .there (.there (.there (.there (.there (.there (.there (.there (.there (.there (.there (.there (.here _ _)))))))))))) | exact .there (.there (.there (.there (.there (.there (.there (.there (.there (.there (.there (.there (.there (.here _ _)))))))))))))) rfl⟩
    have H := hH.out.drew
    generalize World.drew w = w4 at *
    clear hH
    refine takeL (i := 0) rfl (by kernel_rfl) (by kernel_rfl) (by kernel_rfl) (fun _ _ _ _ h => h) hHeld ?_ (Or.inl ⟨by rfl, ?_⟩) ?_
    rotate_left
    · intro W hW
      (try dsimp only at hW)
      first | (go_simp; done) | (go_simp; with_reducible rfl)
    ((try simp only [Act.put]); (try simp only [List.setIfInBounds_toArray]); (try simp only [List.set_cons_succ]); (try simp only [List.set_cons_zero]))
    refine takeL (i := 1) rfl (by kernel_rfl) (by kernel_rfl) (by kernel_rfl) (fun _ _ _ _ h => h) hHeld ?_ (Or.inl ⟨by rfl, ?_⟩) ?_
    rotate_left
    · intro W hW
      (try dsimp only at hW)
      first | (go_simp; done) | (go_simp; with_reducible rfl)
    ((try simp only [Act.put]); (try simp only [List.setIfInBounds_toArray]); (try simp only [List.set_cons_succ]); (try simp only [List.set_cons_zero]))
    refine takeL (i := 2) rfl (by kernel_rfl) (by kernel_rfl) (by kernel_rfl) (fun _ _ _ _ h => h) hHeld ?_ (Or.inl ⟨by rfl, ?_⟩) ?_
    rotate_left
    · intro W hW
      (try dsimp only at hW)
      first | (go_simp; done) | (go_simp; with_reducible rfl)
    ((try simp only [Act.put]); (try simp only [List.setIfInBounds_toArray]); (try simp only [List.set_cons_succ]); (try simp only [List.set_cons_zero]))
    refine takeL (i := 3) rfl (by kernel_rfl) (by kernel_rfl) (by kernel_rfl) (fun _ _ _ _ h => h) hHeld ?_ (Or.inl ⟨by rfl, ?_⟩) ?_
    rotate_left
    · intro W hW
      (try dsimp only at hW)
      first | (go_simp; done) | (go_simp; with_reducible rfl)
    ((try simp only [Act.put]); (try simp only [List.setIfInBounds_toArray]); (try simp only [List.set_cons_succ]); (try simp only [List.set_cons_zero]))
    refine takeL (i := 4) rfl (by kernel_rfl) (by kernel_rfl) (by kernel_rfl) (fun _ _ _ _ h => h) hHeld ?_ (Or.inl ⟨by rfl, ?_⟩) ?_
    rotate_left
    · intro W hW
      (try dsimp only at hW)
      first | (go_simp; done) | (go_simp; with_reducible rfl)
    ((try simp only [Act.put]); (try simp only [List.setIfInBounds_toArray]); (try simp only [List.set_cons_succ]); (try simp only [List.set_cons_zero]))
    refine takeL (i := 5) rfl (by kernel_rfl) (by kernel_rfl) (by kernel_rfl) (fun _ _ _ _ h => h) hHeld ?_ (Or.inl ⟨by rfl, ?_⟩) ?_
    rotate_left
    · intro W hW
      (try dsimp only at hW)
      first | (go_simp; done) | (go_simp; with_reducible rfl)
    ((try simp only [Act.put]); (try simp only [List.setIfInBounds_toArray]); (try simp only [List.set_cons_succ]); (try simp only [List.set_cons_zero]))
    refine takeL (i := 6) rfl (by kernel_rfl) (by kernel_rfl) (by kernel_rfl) (fun _ _ _ _ h => h) hHeld ?_ (Or.inl ⟨by rfl, ?_⟩) ?_
    rotate_left
    · intro W hW
      (try dsimp only at hW)
      first | (go_simp; done) | (go_simp; with_reducible rfl)
    ((try simp only [Act.put]); (try simp only [List.setIfInBounds_toArray]); (try simp only [List.set_cons_succ]); (try simp only [List.set_cons_zero]))
    refine takeL (i := 7) rfl (by kernel_rfl) (by kernel_rfl) (by kernel_rfl) (fun _ _ _ _ h => h) hHeld ?_ (Or.inl ⟨by rfl, ?_⟩) ?_
    rotate_left
    · intro W hW
      (try dsimp only at hW)
      first | (go_simp; done) | (go_simp; with_reducible rfl)
    ((try simp only [Act.put]); (try simp only [List.setIfInBounds_toArray]); (try simp only [List.set_cons_succ]); (try simp only [List.set_cons_zero]))
    refine takeL (i := 8) rfl (by kernel_rfl) (by kernel_rfl) (by kernel_rfl) (fun _ _ _ _ h => h) hHeld ?_ (Or.inl ⟨by rfl, ?_⟩) ?_
    rotate_left
    · intro W hW
      (try dsimp only at hW)
      first | (go_simp; done) | (go_simp; with_reducible rfl)
    ((try simp only [Act.put]); (try simp only [List.setIfInBounds_toArray]); (try simp only [List.set_cons_succ]); (try simp only [List.set_cons_zero]))
    refine takeL (i := 9) rfl (by kernel_rfl) (by kernel_rfl) (by kernel_rfl) (fun _ _ _ _ h => h) hHeld ?_ (Or.inl ⟨by rfl, ?_⟩) ?_
    rotate_left
    · intro W hW
      (try dsimp only at hW)
      first | (go_simp; done) | (go_simp; with_reducible rfl)
    ((try simp only [Act.put]); (try simp only [List.setIfInBounds_toArray]); (try simp only [List.set_cons_succ]); (try simp only [List.set_cons_zero]))
    refine takeL (i := 10) rfl (by kernel_rfl) (by kernel_rfl) (by kernel_rfl) (fun _ _ _ _ h => h) hHeld ?_ (Or.inl ⟨by rfl, ?_⟩) ?_
    rotate_left
    · intro W hW
      (try dsimp only at hW)
      first | (go_simp; done) | (go_simp; with_reducible rfl)
    ((try simp only [Act.put]); (try simp only [List.setIfInBounds_toArray]); (try simp only [List.set_cons_succ]); (try simp only [List.set_cons_zero]))
    refine callL (i := 11) rfl (by kernel_rfl) (fun K hK => ?_)
    rw [if_pos (by rfl)]
    have f2 := own_free H (i * 4 + 1)
    have c2 := own_get H (i := i * 4 + 1) (by omega)
    go_simp
    clear f2 c2 hHeld
    have H' := own_storeK H (i * 4 + 1) (.int .i64 a)
    clear H
    have H := H'
    clear H'
    refine hK.out _ _ ?_ (fun hHeld => ?_)
    · exact ⟨H.cell (b := y) (o := 0) (by first | exact .here _ _ | exact .there (.here _ _) | exact .there (.there (.here _ _)) | exact .there (.there (.there (.here _ _))) | exact .there (.there (.there (.there (.here _ _)))) | exact .there (.there (.there (.there (.there (.here _ _))))) | exact .there (.there (.there (.there (.there (.there (.here _ _)))))) | exact .there (.there (.there (.there (.there (.there (.there (.here _ _))))))) | exact .there (.there (.there (.there (.there (.there (.there (.there (.here _ _)))))))) | exact .there (.there (.there (.there (.there (.there (.there (.there (.there (.here _ _))))))))) | exact .there (.there (.there (.there (.there (.there (.there (.there (.there (.there (.here _ _)))))))))) | exact .there (.there (.there (.there (.there (.there (.there (.there (.there (.there (.there (.here _ _))))))))))) | exact .there (.there (.there (.there (.there (.there (.there (.there (.there (.there (.there (.there (.here _ _)))))))))))) | exact .there (.there (.there (.there (.there (.there (.there (.there (.there (.there (.there (.there (.there (.here _ _)))))))))))))) rfl, H.cell (b := y) (o := 3) (by first | exact .here _ _ | exact .there (.here _ _) | exact .there (.there (.here _ _)) | exact .there (.there (.there (.here _ _))) | exact .there (.there (.there (.there (.here _ _)))) | exact .there (.there (.there (.there (.there (.here _ _))))) | exact .there (.there (.there (.there (.there (.there (.here _ _)))))) | exact .there (.there (.there (.there (.there (.there (.there (.here _ _))))))) | exact .there (.there (.there (.there (.there (.there (.there (.there (.here _ _)))))))) | exact .there (.there (.there (.there (.there (.there (.there (.there (.there (.here _ _))))))))) | exact .there (.there (.there (.there (.there (.there (.there (.there (.there (.there (.here _ _)))))))))) | exact .there (.there (.there (.there (.there (.there (.there (.there (.there (.there (.there (.here _ _))))))))))) | exact .there (.there (.there (.there (.there (.there (.there (.there (.there (.there (.there (.there (.here _ _)))))))))))) | exact .there (.there (.there (.there (.there (.there (.there (.there (.there (.there (.there (.there (.there (.here _ _)))))))))))))) rfl⟩
    clear hK K
    ((try simp only [Act.put]); (try simp only [List.setIfInBounds_toArray]); (try simp only [List.set_cons_succ]); (try simp only [List.set_cons_zero]))
    refine wpAnyH_done (by kernel_rfl) ?_ _
    skip
    have hH := Lib.hid H
    clear H hHeld
    generalize w4.setCell ⟨g, i * 4 + 1, none⟩ (.int .i64 a) = w5 at *
    go_upto_region 5 with (fail)
    refine wp_region_held_drew (S := (fun W => W.cell? ⟨y, 0, none⟩ = some (.int .i64 a) ∧ W.cell? ⟨y, 2, none⟩ = some (.int .i64 now) ∧ W.cell? ⟨y, 3, none⟩ = some (.slice (some ⟨g, 0, none⟩) n sc))) (by kernel_rfl) ?_ (fun hHeld => ?_)
    · have H := hH.out.drew
      exact ⟨H.cell (b := y) (o := 0) (by first | exact .here _ _ | exact .there (.here _ _) | exact .there (.there (.here _ _)) | exact .there (.there (.there (.here _ _))) | exact .there (.there (.there (.there (.here _ _)))) | exact .there (.there (.there (.there (.there (.here _ _))))) | exact .there (.there (.there (.there (.there (.there (.here _ _)))))) | exact .there (.there (.there (.there (.there (.there (.there (.here _ _))))))) | exact .there (.there (.there (.there (.there (.there (.there (.there (.here _ _)))))))) | exact .there (.there (.there (.there (.there (.there (.there (.there (.there (.here _ _))))))))) | exact .there (.there (.there (.there (.there (.there (.there (.there (.there (.there (.here _ _)))))))))) | exact .there (.there (.there (.there (.there (.there (.there (.there (.there (.there (.there (.here _ _))))))))))) | exact .there (.there (.there (.there (.there (.there (.there (.there (.there (.there (.there (.there (.here _ _)))))))))))) | exact .there (.there (.there (.there (.there (.there (.there (.there (.there (.there (.there (.there (.there (.here _ _)))))))))))))) rfl, H.cell (b := y) (o := 2) (by first | exact .here _ _ | exact .there (.here _ _) | exact .there (.there (.here _ _)) | exact .there (.there (.there (.here _ _))) | exact .there (.there (.there (.there (.here _ _)))) | exact .there (.there (.there (.there (.there (.here _ _))))) | exact .there (.there (.there (.there (.there (.there (.here _ _)))))) | exact .there (.there (.there (.there (.there (.there (.there (.here _ _))))))) | exact .there (.there (.there (.there (.there (.there (.there (.there (.here _ _)))))))) | exact .there (.there (.there (.there (.there (.there (.there (.there (.there (.here _ _))))))))) | exact .there (.there (.there (.there (.there (.there (.there (.there (.there (.there (.here _ _)))))))))) | exact .there (.there (.there (.there (.there (.there (.there (.there (.there (.there (.there (.here _ _))))))))))) | exact .there (.there (.there (.there (.there (.there (.there (.there (.there (.there (.there (.there (.here _ _)))))))))))) | exact .there (.there (.there (.there (.there (.there (.there (.there (.there (.there (.there (.there (.there (.here _ _)))))))))))))) rfl, H.cell (b := y) (o := 3) (by first | exact .here _ _ | exact .there (.here _ _) | exact .there (.there (.here _ _)) | exact .there (.there (.there (.here _ _))) | exact .there (.there (.there (.there (.here _ _)))) | exact .there (.there (.there (.there (.there (.here _ _))))) | exact .there (.there (.there (.there (.there (.there (.here _ _)))))) | exact .there (.there (.there (.there (.there (.there (.there (.here _ _))))))) | exact .there (.there (.there (.there (.there (.there (.there (.there (.here _ _)))))))) | exact .there (.there (.there (.there (.there (.there (.there (.there (.there (.here _ _))))))))) | exact .there (.there (.there (.there (.there (.there (.there (.there (.there (.there (.here _ _)))))))))) | exact .there (.there (.there (.there (.there (.there (.there (.there (.there (.there (.there (.here _ _))))))))))) | exact .there (.there (.there (.there (.there (.there (.there (.there (.there (.there (.there (.there (.here _ _)))))))))))) | exact .there (.there (.there (.there (.there (.there (.there (.there (.there (.there (.there (.there (.there (.here _ _)))))))))))))) rfl⟩
    have H := hH.out.drew
    generalize World.drew w5 = w6 at *
    clear hH
    refine takeL (i := 0) rfl (by kernel_rfl) (by kernel_rfl) (by kernel_rfl) (fun _ _ _ _ h => h) hHeld ?_ (Or.inl ⟨by rfl, ?_⟩) ?_
    rotate_left
    · intro W hW
      (try dsimp only at hW)
      first | (go_simp; done) | (go_simp; with_reducible rfl)
    ((try simp only [Act.put]); (try simp only [List.setIfInBounds_toArray]); (try simp only [List.set_cons_succ]); (try simp only [List.set_cons_zero]))
    refine takeL (i := 1) rfl (by kernel_rfl) (by kernel_rfl) (by kernel_rfl) (fun _ _ _ _ h => h) hHeld ?_ (Or.inl ⟨by rfl, ?_⟩) ?_
    rotate_left
    · intro W hW
      (try dsimp only at hW)
      first | (go_simp; done) | (go_simp; with_reducible rfl)
    ((try simp only [Act.put]); (try simp only [List.setIfInBounds_toArray]); (try simp only [List.set_cons_succ]); (try simp only [List.set_cons_zero]))
    refine takeL (i := 2) rfl (by kernel_rfl) (by kernel_rfl) (by kernel_rfl) (fun _ _ _ _ h => h) hHeld ?_ (Or.inl ⟨by rfl, ?_⟩) ?_
    rotate_left
    · intro W hW
      (try dsimp only at hW)
      first | (go_simp; done) | (go_simp; with_reducible rfl)
    ((try simp only [Act.put]); (try simp only [List.setIfInBounds_toArray]); (try simp only [List.set_cons_succ]); (try simp only [List.set_cons_zero]))
    refine takeL (i := 3) rfl (by kernel_rfl) (by kernel_rfl) (by kernel_rfl) (fun _ _ _ _ h => h) hHeld ?_ (Or.inl ⟨by rfl, ?_⟩) ?_
    rotate_left
    · intro W hW
      (try dsimp only at hW)
      first | (go_simp; done) | (go_simp; with_reducible rfl)
    ((try simp only [Act.put]); (try simp only [List.setIfInBounds_toArray]); (try simp only [List.set_cons_succ]); (try simp only [List.set_cons_zero]))
    refine takeL (i := 4) rfl (by kernel_rfl) (by kernel_rfl) (by kernel_rfl) (fun _ _ _ _ h => h) hHeld ?_ (Or.inl ⟨by rfl, ?_⟩) ?_
    rotate_left
    · intro W hW
      (try dsimp only at hW)
      first | (go_simp; done) | (go_simp; with_reducible rfl)
    ((try simp only [Act.put]); (try simp only [List.setIfInBounds_toArray]); (try simp only [List.set_cons_succ]); (try simp only [List.set_cons_zero]))
    refine takeL (i := 5) rfl (by kernel_rfl) (by kernel_rfl) (by kernel_rfl) (fun _ _ _ _ h => h) hHeld ?_ (Or.inl ⟨by rfl, ?_⟩) ?_
    rotate_left
    · intro W hW
      (try dsimp only at hW)
      first | (go_simp; done) | (go_simp; with_reducible rfl)
    ((try simp only [Act.put]); (try simp only [List.setIfInBounds_toArray]); (try simp only [List.set_cons_succ]); (try simp only [List.set_cons_zero]))
    refine takeL (i := 6) rfl (by kernel_rfl) (by kernel_rfl) (by kernel_rfl) (fun _ _ _ _ h => h) hHeld ?_ (Or.inl ⟨by rfl, ?_⟩) ?_
    rotate_left
    · intro W hW
      (try dsimp only at hW)
      first | (go_simp; done) | (go_simp; with_reducible rfl)
    ((try simp only [Act.put]); (try simp only [List.setIfInBounds_toArray]); (try simp only [List.set_cons_succ]); (try simp only [List.set_cons_zero]))
    refine takeL (i := 7) rfl (by kernel_rfl) (by kernel_rfl) (by kernel_rfl) (fun _ _ _ _ h => h) hHeld ?_ (Or.inl ⟨by rfl, ?_⟩) ?_
    rotate_left
    · intro W hW
      (try dsimp only at hW)
      first | (go_simp; done) | (go_simp; with_reducible rfl)
    ((try simp only [Act.put]); (try simp only [List.setIfInBounds_toArray]); (try simp only [List.set_cons_succ]); (try simp only [List.set_cons_zero]))
    refine takeL (i := 8) rfl (by kernel_rfl) (by kernel_rfl) (by kernel_rfl) (fun _ _ _ _ h => h) hHeld ?_ (Or.inl ⟨by rfl, ?_⟩) ?_
    rotate_left
    · intro W hW
      (try dsimp only at hW)
      first | (go_simp; done) | (go_simp; with_reducible rfl)
    ((try simp only [Act.put]); (try simp only [List.setIfInBounds_toArray]); (try simp only [List.set_cons_succ]); (try simp only [List.set_cons_zero]))
    refine takeL (i := 9) rfl (by kernel_rfl) (by kernel_rfl) (by kernel_rfl) (fun _ _ _ _ h => h) hHeld ?_ (Or.inl ⟨by rfl, ?_⟩) ?_
    rotate_left
    · intro W hW
      (try dsimp only at hW)
      first | (go_simp; done) | (go_simp; with_reducible rfl)
    ((try simp only [Act.put]); (try simp only [List.setIfInBounds_toArray]); (try simp only [List.set_cons_succ]); (try simp only [List.set_cons_zero]))
    refine takeL (i := 10) rfl (by kernel_rfl) (by kernel_rfl) (by kernel_rfl) (fun _ _ _ _ h => h) hHeld ?_ (Or.inl ⟨by rfl, ?_⟩) ?_
    rotate_left
    · intro W hW
      (try dsimp only at hW)
      first | (go_simp; done) | (go_simp; with_reducible rfl)
    ((try simp only [Act.put]); (try simp only [List.setIfInBounds_toArray]); (try simp only [List.set_cons_succ]); (try simp only [List.set_cons_zero]))
    refine takeL (i := 11) rfl (by kernel_rfl) (by kernel_rfl) (by kernel_rfl) (fun _ _ _ _ h => h) hHeld ?_ (Or.inl ⟨by rfl, ?_⟩) ?_
    rotate_left
    · intro W hW
      (try dsimp only at hW)
      first | (go_simp; done) | (go_simp; with_reducible rfl)
    ((try simp only [Act.put]); (try simp only [List.setIfInBounds_toArray]); (try simp only [List.set_cons_succ]); (try simp only [List.set_cons_zero]))
    refine takeL (i := 12) rfl (by kernel_rfl) (by kernel_rfl) (by kernel_rfl) (fun _ _ _ _ h => h) hHeld ?_ (Or.inl ⟨by rfl, ?_⟩) ?_
    rotate_left
    · intro W hW
      (try dsimp only at hW)
      first | (go_simp; done) | (go_simp; with_reducible rfl)
    ((try simp only [Act.put]); (try simp only [List.setIfInBounds_toArray]); (try simp only [List.set_cons_succ]); (try simp only [List.set_cons_zero]))
    refine takeL (i := 13) rfl (by kernel_rfl) (by kernel_rfl) (by kernel_rfl) (fun _ _ _ _ h => h) hHeld ?_ (Or.inl ⟨by rfl, ?_⟩) ?_
    rotate_left
    · intro W hW
      (try dsimp only at hW)
      first | (go_simp; done) | (go_simp; with_reducible rfl)
    ((try simp only [Act.put]); (try simp only [List.setIfInBounds_toArray]); (try simp only [List.set_cons_succ]); (try simp only [List.set_cons_zero]))
    refine takeL (i := 14) rfl (by kernel_rfl) (by kernel_rfl) (by kernel_rfl) (fun _ _ _ _ h => h) hHeld ?_ (Or.inl ⟨by rfl, ?_⟩) ?_
    rotate_left
    · intro W hW
      (try dsimp only at hW)
      first | (go_simp; done) | (go_simp; with_reducible rfl)
    ((try simp only [Act.put]); (try simp only [List.setIfInBounds_toArray]); (try simp only [List.set_cons_succ]); (try simp only [List.set_cons_zero]))
    refine takeL (i := 15) rfl (by kernel_rfl) (by kernel_rfl) (by kernel_rfl) (fun _ _ _ _ h => h) hHeld ?_ (Or.inl ⟨by rfl, ?_⟩) ?_
    rotate_left
    · intro W hW
      (try dsimp only at hW)
      first | (go_simp; done) | (go_simp; with_reducible rfl)
    ((try simp only [Act.put]); (try simp only [List.setIfInBounds_toArray]); (try simp only [List.set_cons_succ]); (try simp only [List.set_cons_zero]))
    refine callL (i := 16) rfl (by kernel_rfl) (fun K hK => ?_)
    rw [if_pos (by rfl)]
    have f2 := own_free H (i * 4 + 2)
    have c2 := own_get H (i := i * 4 + 2) (by omega)
    go_simp
    clear f2 c2 hHeld
    have H' := own_storeK H (i * 4 + 2) (.int .i64 (now + a))
    clear H
    have H := H'
    clear H'
    refine hK.out _ _ ?_ (fun hHeld => ?_)
    · exact ⟨H.cell (b := y) (o := 0) (by first | exact .here _ _ | exact .there (.here _ _) | exact .there (.there (.here _ _)) | exact .there (.there (.there (.here _ _))) | exact .there (.there (.there (.there (.here _ _)))) | exact .there (.there (.there (.there (.there (.here _ _))))) | exact .there (.there (.there (.there (.there (.there (.here _ _)))))) | exact .there (.there (.there (.there (.there (.there (.there (.here _ _))))))) | exact .there (.there (.there (.there (.there (.there (.there (.there (.here _ _)))))))) | exact .there (.there (.there (.there (.there (.there (.there (.there (.there (.here _ _))))))))) | exact .there (.there (.there (.there (.there (.there (.there (.there (.there (.there (.here _ _)))))))))) | exact .there (.there (.there (.there (.there (.there (.there (.there (.there (.there (.there (.here _ _))))))))))) | exact .there (.there (.there (.there (.there (.there (.there (.there (.there (.there (.there (.there (.here _ _)))))))))))) | exact .there (.there (.there (.there (.there (.there (.there (.there (.there (.there (.there (.there (.there (.here _ _)))))))))))))) rfl, H.cell (b := y) (o := 2) (by first | exact .here _ _ | exact .there (.here _ _) | exact .there (.there (.here _ _)) | exact .there (.there (.there (.here _ _))) | exact .there (.there (.there (.there (.here _ _)))) | exact .there (.there (.there (.there (.there (.here _ _))))) | exact .there (.there (.there (.there (.there (.there (.here _ _)))))) | exact .there (.there (.there (.there (.there (.there (.there (.here _ _))))))) | exact .there (.there (.there (.there (.there (.there (.there (.there (.here _ _)))))))) | exact .there (.there (.there (.there (.there (.there (.there (.there (.there (.here _ _))))))))) | exact .there (.there (.there (.there (.there (.there (.there (.there (.there (.there (.here _ _)))))))))) | exact .there (.there (.there (.there (.there (.there (.there (.there (.there (.there (.there (.here _ _))))))))))) | exact .there (.there (.there (.there (.there (.there (.there (.there (.there (.there (.there (.there (.here _ _)))))))))))) | exact .there (.there (.there (.there (.there (.there (.there (.there (.there (.there (.there (.there (.there (.here _ _)))))))))))))) rfl, H.cell (b := y) (o := 3) (by first | exact .here _ _ | exact .there (.here _ _) | exact .there (.there (.here _ _)) | exact .there (.there (.there (.here _ _))) | exact .there (.there (.there (.there (.here _ _)))) | exact .there (.there (.there (.there (.there (.here _ _))))) | exact .there (.there (.there (.there (.there (.there (.here _ _)))))) | exact .there (.there (.there (.there (.there (.there (.there (.here _ _))))))) | exact .there (.there (.there (.there (.there (.there (.there (.there (.here _ _)))))))) | exact .there (.there (.there (.there (.there (.there (.there (.there (.there (.here _ _))))))))) | exact .there (.there (.there (.there (.there (.there (.there (.there (.there (.there (.here _ _)))))))))) | exact .there (.there (.there (.there (.there (.there (.there (.there (.there (.there (.there (.here _ _))))))))))) | exact .there (.there (.there (.there (.there (.there (.there (.there (.there (.there (.there (.there (.here _ _)))))))))))) | exact .there (.there (.there (.there (.there (.there (.there (.there (.there (.there (.there (.there (.there (.here _ _)))))))))))))) rfl⟩
    clear hK K
    ((try simp only [Act.put]); (try simp only [List.setIfInBounds_toArray]); (try simp only [List.set_cons_succ]); (try simp only [List.set_cons_zero]))
    refine wpAnyH_done (by kernel_rfl) ?_ _
    skip
    have hf := Lib.hid (hfin.out _ H)
    clear H hHeld hfin
    go_wp2_with fail
    go_ret
    exact ⟨rfl, hf.out⟩
end
end Go.Proofs.Ytcjmkpphohkofaa
