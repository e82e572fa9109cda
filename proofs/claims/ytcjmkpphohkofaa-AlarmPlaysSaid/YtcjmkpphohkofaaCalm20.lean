/- Calm; told, Left, Rung. -/
import Derived.Test.YtcjmkpphohkofaaDrop
namespace Go.Proofs.Ytcjmkpphohkofaa
open Go.RowKit
set_option linter.unusedVariables false

theorem own_storeK {w : World} {L : List Pc} {e : TypeId} {k g n c : Nat} {xs : List Value} (H : SL w (.own e k (.slice (some ⟨g, 0, none⟩) n c) n xs :: L)) (i : Nat) (u : Value) :
    SL (w.setCell ⟨g, i, none⟩ u) (.own e k (.slice (some ⟨g, 0, none⟩) n c) n (xs.set i u) :: L) := by
  obtain ⟨cs, h1, h2, h3, h4, HB⟩ := H.toBlk
  have := (HB.setCell i u).toOwn (k := k) (n := n) (cap := c) (by simpa using h1) h2 h3
  rw [List.take_set, h4] at this
  exact this
theorem own_free {w : World} {L : List Pc} {e : TypeId} {k g n c : Nat} {xs : List Value} (H : SL w (.own e k (.slice (some ⟨g, 0, none⟩) n c) n xs :: L)) (i : Nat) : w.frozen? ⟨g, i, none⟩ = false := by
  obtain ⟨cs, h1, h2, h3, h4, HB⟩ := H.toBlk
  exact HB.free (.here _ _) i
theorem own_get {w : World} {L : List Pc} {e : TypeId} {k g n c : Nat} {xs : List Value} (H : SL w (.own e k (.slice (some ⟨g, 0, none⟩) n c) n xs :: L)) {i : Nat} (hi : i < n * k) : w.cell? ⟨g, i, none⟩ = some (xs.getD i undef) := by
  have h : OwnK w 0 e k (.slice (some ⟨g, 0, none⟩) n c) n xs := H.head
  rcases h.form with ⟨e, _⟩ | ⟨g', cap, e, _, _, _, _, _, h7, _⟩
  · cases e
  · cases e
    exact h7 i hi
theorem alC_set {l : List Al} : ∀ {i : Nat} (hi : i < l.length) (j : Nat) (hj : j < 4) (u : Value) (y : Al), (l[i]'hi).c.set j u = y.c → (alC l).set (i * 4 + j) u = alC (l.set i y) := by
  induction l with
  | nil => intro i hi; simp at hi
  | cons x l ih =>
    intro i hi j hj u y h
    cases i with
    | zero =>
      show (x.c ++ alC l).set (0 * 4 + j) u = y.c ++ alC l
      rw [Nat.zero_mul, Nat.zero_add, List.set_append_left _ _ (by simp only [Al.c, List.length_cons, List.length_nil]; omega)]
      congr 1
    | succ i =>
      show (x.c ++ alC l).set ((i + 1) * 4 + j) u = x.c ++ alC (l.set i y)
      rw [← ih (i := i) (by simpa using hi) j hj u y h, List.set_append_right _ _ (by simp only [Al.c, List.length_cons, List.length_nil]; omega)]
      congr 2
      simp only [Al.c, List.length_cons, List.length_nil]; omega

section
variable {R : Int} {p : Nat} {s : Ck} {L : List Pc} {w : World}
set_option maxRecDepth 100000 in
set_option maxHeartbeats 8000000 in
theorem calmf_c {cb : Nat} {k : Int} {i : Nat} (hh : hit s.l k i = true) (H : CAt R p s (.blk cb [ptrV p] 25 :: L) w) :
    Calls Try.prog 34 #[.int .i64 (i : Nat), ptrV cb] w fun e w' => (∃ v, e = .returned v) ∧ CAt R p { s with l := calmK s.l k s.a } (.blk cb [ptrV p] 25 :: L) w' := by
  obtain ⟨sl, HS, ok⟩ := H
  obtain ⟨hi, heq⟩ := calm_at (a := s.a) ok.srt hh
  have hlen := ok.len
  have hok := Lib.hid (ok.calm k)
  obtain ⟨g, sc, rfl, hcap, c0, c1, c2, c3⟩ := own_al (HS.re (.step (.there (.here _ _)) (.same _))) hi
  unfold ckP at HS
  obtain ⟨a, b, l⟩ := s
  dsimp only at *
  have hok : Hid (CkOk R ⟨a, b, calmK l k a⟩) := hok
  have hH := Lib.hid (show SL w (_ :: _ :: _ :: L) from HS)
  have hset : Hid (((alC l).set (i * 4 + 1) (.int .i64 a)).set (i * 4 + 2) (.int .i64 a) = alC (calmK l k a)) := Lib.hid (by
    rw [alC_set hi 1 (by omega) _ ⟨(l[i]'hi).key, a, (l[i]'hi).left, (l[i]'hi).rung⟩ rfl, alC_set (l := l.set i _) (by simpa using hi) 2 (by omega) _ ⟨(l[i]'hi).key, a, a, (l[i]'hi).rung⟩ (by rw [List.getElem_set_self]; rfl), List.set_set, heq])
  have hl2 : (calmK l k a).length = l.length := by simp [calmK]
  have hfin : Hid (∀ V, SL V (.own 59 4 (.slice (some ⟨g, 0, none⟩) l.length sc) l.length (((alC l).set (i * 4 + 1) (.int .i64 a)).set (i * 4 + 2) (.int .i64 a)) :: .blk p [.int .i64 a, .int .i64 b, .slice (some ⟨g, 0, none⟩) l.length sc] 54 :: .blk cb [ptrV p] 25 :: L) → CAt R p ⟨a, b, calmK l k a⟩ (.blk cb [ptrV p] 25 :: L) V) := Lib.hid fun V h => ⟨_, by
    unfold ckP
    dsimp only
    rw [hl2, ← hset.out]
    exact h.re (.step (.there (.here _ _)) (.same _)), hok.out⟩
  clear HS ok heq hlen hh hset hl2 hok c0 c1 c2 c3
  obtain ⟨nl, hnl⟩ : ∃ nl, calmK l k a = nl := ⟨_, rfl⟩
  have hnl' := Lib.hid hnl
  rw [hnl] at hfin
  clear hnl
  generalize alC l = xs at *
  generalize l.length = n at *
  unfold ptrV at *
  go_enter Try.func34, Try.ntmps34
  refine wp_region_held_drew (S := (fun W => W.cell? ⟨cb, 0, none⟩ = some (.pointer (some ⟨p, 0, none⟩)) ∧ W.cell? ⟨p, 0, none⟩ = some (.int .i64 a) ∧ W.cell? ⟨p, 2, none⟩ = some (.slice (some ⟨g, 0, none⟩) n sc))) (by kernel_rfl) ?_ (fun hHeld => ?_)
  · have H := hH.out.drew
    exact ⟨H.cell (b := cb) (o := 0) (by first | exact .here _ _ | exact .there (.here _ _) | exact .there (.there (.here _ _)) | exact .there (.there (.there (.here _ _))) | exact .there (.there (.there (.there (.here _ _)))) | exact .there (.there (.there (.there (.there (.here _ _))))) | exact .there (.there (.there (.there (.there (.there (.here _ _)))))) | exact .there (.there (.there (.there (.there (.there (.there (.here _ _))))))) | exact .there (.there (.there (.there (.there (.there (.there (.there (.here _ _)))))))) | exact .there (.there (.there (.there (.there (.there (.there (.there (.there (.here _ _))))))))) | exact .there (.there (.there (.there (.there (.there (.there (.there (.there (.there (.here _ _)))))))))) | exact .there (.there (.there (.there (.there (.there (.there (.there (.there (.there (.there (.here _ _))))))))))) | exact .there (.there (.there (.there (.there (.there (.there (.there (.there (.there (.there (.there (.here _ _)))))))))))) | exact .there (.there (.there (.there (.there (.there (.there (.there (.there (.there (.there (.there (.there (.here _ _)))))))))))))) rfl, H.cell (b := p) (o := 0) (by first | exact .here _ _ | exact .there (.here _ _) | exact .there (.there (.here _ _)) | exact .there (.there (.there (.here _ _))) | exact .there (.there (.there (.there (.here _ _)))) | exact .there (.there (.there (.there (.there (.here _ _))))) | exact .there (.there (.there (.there (.there (.there (.here _ _)))))) | exact .there (.there (.there (.there (.there (.there (.there (.here _ _))))))) | exact .there (.there (.there (.there (.there (.there (.there (.there (.here _ _)))))))) | exact .there (.there (.there (.there (.there (.there (.there (.there (.there (.here _ _))))))))) | exact .there (.there (.there (.there (.there (.there (.there (.there (.there (.there (.here _ _)))))))))) | exact .there (.there (.there (.there (.there (.there (.there (.there (.there (.there (.there (.here _ _))))))))))) | exact .there (.there (.there (.there (.there (.there (.there (.there (.there (.there (.there (.there (.here _ _)))))))))))) | exact .there (.there (.there (.there (.there (.there (.there (.there (.there (.there (.there (.there (.there (.here _ _)))))))))))))) rfl, H.cell (b := p) (o := 2) (by first | exact .here _ _ | exact .there (.here _ _) | exact .there (.there (.here _ _)) | exact .there (.there (.there (.here _ _))) | exact .there (.there (.there (.there (.here _ _)))) | exact .there (.there (.there (.there (.there (.here _ _))))) | exact .there (.there (.there (.there (.there (.there (.here _ _)))))) | exact .there (.there (.there (.there (.there (.there (.there (.here _ _))))))) | exact .there (.there (.there (.there (.there (.there (.there (.there (.here _ _)))))))) | exact .there (.there (.there (.there (.there (.there (.there (.there (.there (.here _ _))))))))) | exact .there (.there (.there (.there (.there (.there (.there (.there (.there (.there (.here _ _)))))))))) | exact .there (.there (.there (.there (.there (.there (.there (.there (.there (.there (.there (.here _ _))))))))))) | exact .there (.there (.there (.there (.there (.there (.there (.there (.there (.there (.there (.there (.here _ _)))))))))))) | exact .there (.there (.there (.there (.there (.there (.there (.there (.there (.there (.there (.there (.there (.here _ _)))))))))))))) rfl⟩
  have H := (hH.out.drew.re (.step (.there (.here _ _)) (.same _)) : SL _ (.own 59 4 (.slice (some ⟨g, 0, none⟩) n sc) n xs :: .blk p [.int .i64 a, .int .i64 b, .slice (some ⟨g, 0, none⟩) n sc] 54 :: .blk cb [.pointer (some ⟨p, 0, none⟩)] 25 :: L))
  generalize World.drew w = w4 at *
  clear hH
  refine takeL (i := 0) rfl (by kernel_rfl) (by kernel_rfl) (by kernel_rfl) (fun _ _ _ _ h => h) hHeld ?_ (Or.inl ⟨by rfl, ?_⟩) ?_
  rotate_left
  · intro W hW
    (try dsimp only at hW)
    first | (go_simp; done) | (go_simp; with_reducible rfl)
  ((try simp only [Act.put]); (try simp only [List.setIfInBounds_toArray]); (try simp only [List.set_cons_succ]); (try simp only [List.set_cons_zero]))
  refine takeL (i := 1) rfl (by kernel_rfl) (by kernel_rfl) (by kernel_rfl) (fun _ _ _ _ h => h) hHeld ?_ (Or.inl ⟨by rfl, ?_⟩) ?_
  rotate_left
  · intro W hW
    (try dsimp only at hW)
    first | (go_simp; done) | (go_simp; with_reducible rfl)
  ((try simp only [Act.put]); (try simp only [List.setIfInBounds_toArray]); (try simp only [List.set_cons_succ]); (try simp only [List.set_cons_zero]))
  refine takeL (i := 2) rfl (by kernel_rfl) (by kernel_rfl) (by kernel_rfl) (fun _ _ _ _ h => h) hHeld ?_ (Or.inl ⟨by rfl, ?_⟩) ?_
  rotate_left
  · intro W hW
    (try dsimp only at hW)
    first | (go_simp; done) | (go_simp; with_reducible rfl)
  ((try simp only [Act.put]); (try simp only [List.setIfInBounds_toArray]); (try simp only [List.set_cons_succ]); (try simp only [List.set_cons_zero]))
  refine takeL (i := 3) rfl (by kernel_rfl) (by kernel_rfl) (by kernel_rfl) (fun _ _ _ _ h => h) hHeld ?_ (Or.inl ⟨by rfl, ?_⟩) ?_
  rotate_left
  · intro W hW
    (try dsimp only at hW)
    first | (go_simp; done) | (go_simp; with_reducible rfl)
  ((try simp only [Act.put]); (try simp only [List.setIfInBounds_toArray]); (try simp only [List.set_cons_succ]); (try simp only [List.set_cons_zero]))
  refine takeL (i := 4) rfl (by kernel_rfl) (by kernel_rfl) (by kernel_rfl) (fun _ _ _ _ h => h) hHeld ?_ (Or.inl ⟨by rfl, ?_⟩) ?_
  rotate_left
  · intro W hW
    (try dsimp only at hW)
    first | (go_simp; done) | (go_simp; with_reducible rfl)
  ((try simp only [Act.put]); (try simp only [List.setIfInBounds_toArray]); (try simp only [List.set_cons_succ]); (try simp only [List.set_cons_zero]))
  refine takeL (i := 5) rfl (by kernel_rfl) (by kernel_rfl) (by kernel_rfl) (fun _ _ _ _ h => h) hHeld ?_ (Or.inl ⟨by rfl, ?_⟩) ?_
  rotate_left
  · intro W hW
    (try dsimp only at hW)
    first | (go_simp; done) | (go_simp; with_reducible rfl)
  ((try simp only [Act.put]); (try simp only [List.setIfInBounds_toArray]); (try simp only [List.set_cons_succ]); (try simp only [List.set_cons_zero]))
  refine takeL (i := 6) rfl (by kernel_rfl) (by kernel_rfl) (by kernel_rfl) (fun _ _ _ _ h => h) hHeld ?_ (Or.inl ⟨by rfl, ?_⟩) ?_
  rotate_left
  · intro W hW
    (try dsimp only at hW)
    first | (go_simp; done) | (go_simp; with_reducible rfl)
  ((try simp only [Act.put]); (try simp only [List.setIfInBounds_toArray]); (try simp only [List.set_cons_succ]); (try simp only [List.set_cons_zero]))
  refine takeL (i := 7) rfl (by kernel_rfl) (by kernel_rfl) (by kernel_rfl) (fun _ _ _ _ h => h) hHeld ?_ (Or.inl ⟨by rfl, ?_⟩) ?_
  rotate_left
  · intro W hW
    (try dsimp only at hW)
    first | (go_simp; done) | (go_simp; with_reducible rfl)
  ((try simp only [Act.put]); (try simp only [List.setIfInBounds_toArray]); (try simp only [List.set_cons_succ]); (try simp only [List.set_cons_zero]))
  refine takeL (i := 8) rfl (by kernel_rfl) (by kernel_rfl) (by kernel_rfl) (fun _ _ _ _ h => h) hHeld ?_ (Or.inl ⟨by rfl, ?_⟩) ?_
  rotate_left
  · intro W hW
    (try dsimp only at hW)
    first | (go_simp; done) | (go_simp; with_reducible rfl)
  ((try simp only [Act.put]); (try simp only [List.setIfInBounds_toArray]); (try simp only [List.set_cons_succ]); (try simp only [List.set_cons_zero]))
  refine takeL (i := 9) rfl (by kernel_rfl) (by kernel_rfl) (by kernel_rfl) (fun _ _ _ _ h => h) hHeld ?_ (Or.inl ⟨by rfl, ?_⟩) ?_
  rotate_left
  · intro W hW
    (try dsimp only at hW)
    first | (go_simp; done) | (go_simp; with_reducible rfl)
  ((try simp only [Act.put]); (try simp only [List.setIfInBounds_toArray]); (try simp only [List.set_cons_succ]); (try simp only [List.set_cons_zero]))
  refine takeL (i := 10) rfl (by kernel_rfl) (by kernel_rfl) (by kernel_rfl) (fun _ _ _ _ h => h) hHeld ?_ (Or.inl ⟨by rfl, ?_⟩) ?_
  rotate_left
  · intro W hW
    (try dsimp only at hW)
    first | (go_simp; done) | (go_simp; with_reducible rfl)
  ((try simp only [Act.put]); (try simp only [List.setIfInBounds_toArray]); (try simp only [List.set_cons_succ]); (try simp only [List.set_cons_zero]))
  refine takeL (i := 11) rfl (by kernel_rfl) (by kernel_rfl) (by kernel_rfl) (fun _ _ _ _ h => h) hHeld ?_ (Or.inl ⟨by rfl, ?_⟩) ?_
  rotate_left
  · intro W hW
    (try dsimp only at hW)
    first | (go_simp; done) | (go_simp; with_reducible rfl)
  ((try simp only [Act.put]); (try simp only [List.setIfInBounds_toArray]); (try simp only [List.set_cons_succ]); (try simp only [List.set_cons_zero]))
  refine takeL (i := 12) rfl (by kernel_rfl) (by kernel_rfl) (by kernel_rfl) (fun _ _ _ _ h => h) hHeld ?_ (Or.inl ⟨by rfl, ?_⟩) ?_
  rotate_left
  · intro W hW
    (try dsimp only at hW)
    first | (go_simp; done) | (go_simp; with_reducible rfl)
  ((try simp only [Act.put]); (try simp only [List.setIfInBounds_toArray]); (try simp only [List.set_cons_succ]); (try simp only [List.set_cons_zero]))
  refine takeL (i := 13) rfl (by kernel_rfl) (by kernel_rfl) (by kernel_rfl) (fun _ _ _ _ h => h) hHeld ?_ (Or.inl ⟨by rfl, ?_⟩) ?_
  rotate_left
  · intro W hW
    (try dsimp only at hW)
    first | (go_simp; done) | (go_simp; with_reducible rfl)
  ((try simp only [Act.put]); (try simp only [List.setIfInBounds_toArray]); (try simp only [List.set_cons_succ]); (try simp only [List.set_cons_zero]))
  refine takeL (i := 14) rfl (by kernel_rfl) (by kernel_rfl) (by kernel_rfl) (fun _ _ _ _ h => h) hHeld ?_ (Or.inl ⟨by rfl, ?_⟩) ?_
  rotate_left
  · intro W hW
    (try dsimp only at hW)
    first | (go_simp; done) | (go_simp; with_reducible rfl)
  ((try simp only [Act.put]); (try simp only [List.setIfInBounds_toArray]); (try simp only [List.set_cons_succ]); (try simp only [List.set_cons_zero]))
  refine takeL (i := 15) rfl (by kernel_rfl) (by kernel_rfl) (by kernel_rfl) (fun _ _ _ _ h => h) hHeld ?_ (Or.inl ⟨by rfl, ?_⟩) ?_
  rotate_left
  · intro W hW
    (try dsimp only at hW)
    first | (go_simp; done) | (go_simp; with_reducible rfl)
  ((try simp only [Act.put]); (try simp only [List.setIfInBounds_toArray]); (try simp only [List.set_cons_succ]); (try simp only [List.set_cons_zero]))
  refine takeL (i := 16) rfl (by kernel_rfl) (by kernel_rfl) (by kernel_rfl) (fun _ _ _ _ h => h) hHeld ?_ (Or.inl ⟨by rfl, ?_⟩) ?_
  rotate_left
  · intro W hW
    (try dsimp only at hW)
    first | (go_simp; done) | (go_simp; with_reducible rfl)
  ((try simp only [Act.put]); (try simp only [List.setIfInBounds_toArray]); (try simp only [List.set_cons_succ]); (try simp only [List.set_cons_zero]))
  refine takeL (i := 17) rfl (by kernel_rfl) (by kernel_rfl) (by kernel_rfl) (fun _ _ _ _ h => h) hHeld ?_ (Or.inl ⟨by rfl, ?_⟩) ?_
  rotate_left
  · intro W hW
    (try dsimp only at hW)
    first | (go_simp; done) | (go_simp; with_reducible rfl)
  ((try simp only [Act.put]); (try simp only [List.setIfInBounds_toArray]); (try simp only [List.set_cons_succ]); (try simp only [List.set_cons_zero]))
  refine takeL (i := 18) rfl (by kernel_rfl) (by kernel_rfl) (by kernel_rfl) (fun _ _ _ _ h => h) hHeld ?_ (Or.inl ⟨by rfl, ?_⟩) ?_
  rotate_left
  · intro W hW
    (try dsimp only at hW)
    first | (go_simp; done) | (go_simp; with_reducible rfl)
  ((try simp only [Act.put]); (try simp only [List.setIfInBounds_toArray]); (try simp only [List.set_cons_succ]); (try simp only [List.set_cons_zero]))
  refine takeL (i := 19) rfl (by kernel_rfl) (by kernel_rfl) (by kernel_rfl) (fun _ _ _ _ h => h) hHeld ?_ (Or.inl ⟨by rfl, ?_⟩) ?_
  rotate_left
  · intro W hW
    (try dsimp only at hW)
    first | (go_simp; done) | (go_simp; with_reducible rfl)
  ((try simp only [Act.put]); (try simp only [List.setIfInBounds_toArray]); (try simp only [List.set_cons_succ]); (try simp only [List.set_cons_zero]))
  refine takeL (i := 20) rfl (by kernel_rfl) (by kernel_rfl) (by kernel_rfl) (fun _ _ _ _ h => h) hHeld ?_ (Or.inl ⟨by rfl, ?_⟩) ?_
  rotate_left
  · intro W hW
    (try dsimp only at hW)
    first | (go_simp; done) | (go_simp; with_reducible rfl)
  ((try simp only [Act.put]); (try simp only [List.setIfInBounds_toArray]); (try simp only [List.set_cons_succ]); (try simp only [List.set_cons_zero]))
  refine callL (i := 21) rfl (by kernel_rfl) (fun K hK => ?_)
  rw [if_pos (by rfl)]
  have f2 := own_free H (i * 4 + 1)
  have c2 := own_get H (i := i * 4 + 1) (by omega)
  go_simp
  clear f2 c2 hHeld
  have H' := own_storeK H (i * 4 + 1) (.int .i64 a)
  clear H
  have H := H'
  clear H'
  refine hK.out _ _ ?_ (fun hHeld => ?_)
  · exact ⟨H.cell (b := cb) (o := 0) (by first | exact .here _ _ | exact .there (.here _ _) | exact .there (.there (.here _ _)) | exact .there (.there (.there (.here _ _))) | exact .there (.there (.there (.there (.here _ _)))) | exact .there (.there (.there (.there (.there (.here _ _))))) | exact .there (.there (.there (.there (.there (.there (.here _ _)))))) | exact .there (.there (.there (.there (.there (.there (.there (.here _ _))))))) | exact .there (.there (.there (.there (.there (.there (.there (.there (.here _ _)))))))) | exact .there (.there (.there (.there (.there (.there (.there (.there (.there (.here _ _))))))))) | exact .there (.there (.there (.there (.there (.there (.there (.there (.there (.there (.here _ _)))))))))) | exact .there (.there (.there (.there (.there (.there (.there (.there (.there (.there (.there (.here _ _))))))))))) | exact .there (.there (.there (.there (.there (.there (.there (.there (.there (.there (.there (.there (.here _ _)))))))))))) | exact .there (.there (.there (.there (.there (.there (.there (.there (.there (.there (.there (.there (.there (.here _ _)))))))))))))) rfl, H.cell (b := p) (o := 0) (by first | exact .here _ _ | exact .there (.here _ _) | exact .there (.there (.here _ _)) | exact .there (.there (.there (.here _ _))) | exact .there (.there (.there (.there (.here _ _)))) | exact .there (.there (.there (.there (.there (.here _ _))))) | exact .there (.there (.there (.there (.there (.there (.here _ _)))))) | exact .there (.there (.there (.there (.there (.there (.there (.here _ _))))))) | exact .there (.there (.there (.there (.there (.there (.there (.there (.here _ _)))))))) | exact .there (.there (.there (.there (.there (.there (.there (.there (.there (.here _ _))))))))) | exact .there (.there (.there (.there (.there (.there (.there (.there (.there (.there (.here _ _)))))))))) | exact .there (.there (.there (.there (.there (.there (.there (.there (.there (.there (.there (.here _ _))))))))))) | exact .there (.there (.there (.there (.there (.there (.there (.there (.there (.there (.there (.there (.here _ _)))))))))))) | exact .there (.there (.there (.there (.there (.there (.there (.there (.there (.there (.there (.there (.there (.here _ _)))))))))))))) rfl, H.cell (b := p) (o := 2) (by first | exact .here _ _ | exact .there (.here _ _) | exact .there (.there (.here _ _)) | exact .there (.there (.there (.here _ _))) | exact .there (.there (.there (.there (.here _ _)))) | exact .there (.there (.there (.there (.there (.here _ _))))) | exact .there (.there (.there (.there (.there (.there (.here _ _)))))) | exact .there (.there (.there (.there (.there (.there (.there (.here _ _))))))) | exact .there (.there (.there (.there (.there (.there (.there (.there (.here _ _)))))))) | exact .there (.there (.there (.there (.there (.there (.there (.there (.there (.here _ _))))))))) | exact .there (.there (.there (.there (.there (.there (.there (.there (.there (.there (.here _ _)))))))))) | exact .there (.there (.there (.there (.there (.there (.there (.there (.there (.there (.there (.here _ _))))))))))) | exact .there (.there (.there (.there (.there (.there (.there (.there (.there (.there (.there (.there (.here _ _)))))))))))) | exact .there (.there (.there (.there (.there (.there (.there (.there (.there (.there (.there (.there (.there (.here _ _)))))))))))))) rfl⟩
  clear hK K
  ((try simp only [Act.put]); (try simp only [List.setIfInBounds_toArray]); (try simp only [List.set_cons_succ]); (try simp only [List.set_cons_zero]))
  refine takeL (i := 22) rfl (by kernel_rfl) (by kernel_rfl) (by kernel_rfl) (fun _ _ _ _ h => h) hHeld ?_ (Or.inl ⟨by rfl, ?_⟩) ?_
  rotate_left
  · intro W hW
    (try dsimp only at hW)
    first | (go_simp; done) | (go_simp; with_reducible rfl)
  ((try simp only [Act.put]); (try simp only [List.setIfInBounds_toArray]); (try simp only [List.set_cons_succ]); (try simp only [List.set_cons_zero]))
  refine takeL (i := 23) rfl (by kernel_rfl) (by kernel_rfl) (by kernel_rfl) (fun _ _ _ _ h => h) hHeld ?_ (Or.inl ⟨by rfl, ?_⟩) ?_
  rotate_left
  · intro W hW
    (try dsimp only at hW)
    first | (go_simp; done) | (go_simp; with_reducible rfl)
  ((try simp only [Act.put]); (try simp only [List.setIfInBounds_toArray]); (try simp only [List.set_cons_succ]); (try simp only [List.set_cons_zero]))
  refine takeL (i := 24) rfl (by kernel_rfl) (by kernel_rfl) (by kernel_rfl) (fun _ _ _ _ h => h) hHeld ?_ (Or.inl ⟨by rfl, ?_⟩) ?_
  rotate_left
  · intro W hW
    (try dsimp only at hW)
    first | (go_simp; done) | (go_simp; with_reducible rfl)
  ((try simp only [Act.put]); (try simp only [List.setIfInBounds_toArray]); (try simp only [List.set_cons_succ]); (try simp only [List.set_cons_zero]))
  refine callL (i := 25) rfl (by kernel_rfl) (fun K hK => ?_)
  rw [if_pos (by rfl)]
  have f2 := own_free H (i * 4 + 2)
  have c2 := own_get H (i := i * 4 + 2) (by omega)
  go_simp
  clear f2 c2 hHeld
  have H' := own_storeK H (i * 4 + 2) (.int .i64 a)
  clear H
  have H := H'
  clear H'
  refine hK.out _ _ ?_ (fun hHeld => ?_)
  · exact ⟨H.cell (b := cb) (o := 0) (by first | exact .here _ _ | exact .there (.here _ _) | exact .there (.there (.here _ _)) | exact .there (.there (.there (.here _ _))) | exact .there (.there (.there (.there (.here _ _)))) | exact .there (.there (.there (.there (.there (.here _ _))))) | exact .there (.there (.there (.there (.there (.there (.here _ _)))))) | exact .there (.there (.there (.there (.there (.there (.there (.here _ _))))))) | exact .there (.there (.there (.there (.there (.there (.there (.there (.here _ _)))))))) | exact .there (.there (.there (.there (.there (.there (.there (.there (.there (.here _ _))))))))) | exact .there (.there (.there (.there (.there (.there (.there (.there (.there (.there (.here _ _)))))))))) | exact .there (.there (.there (.there (.there (.there (.there (.there (.there (.there (.there (.here _ _))))))))))) | exact .there (.there (.there (.there (.there (.there (.there (.there (.there (.there (.there (.there (.here _ _)))))))))))) | exact .there (.there (.there (.there (.there (.there (.there (.there (.there (.there (.there (.there (.there (.here _ _)))))))))))))) rfl, H.cell (b := p) (o := 0) (by first | exact .here _ _ | exact .there (.here _ _) | exact .there (.there (.here _ _)) | exact .there (.there (.there (.here _ _))) | exact .there (.there (.there (.there (.here _ _)))) | exact .there (.there (.there (.there (.there (.here _ _))))) | exact .there (.there (.there (.there (.there (.there (.here _ _)))))) | exact .there (.there (.there (.there (.there (.there (.there (.here _ _))))))) | exact .there (.there (.there (.there (.there (.there (.there (.there (.here _ _)))))))) | exact .there (.there (.there (.there (.there (.there (.there (.there (.there (.here _ _))))))))) | exact .there (.there (.there (.there (.there (.there (.there (.there (.there (.there (.here _ _)))))))))) | exact .there (.there (.there (.there (.there (.there (.there (.there (.there (.there (.there (.here _ _))))))))))) | exact .there (.there (.there (.there (.there (.there (.there (.there (.there (.there (.there (.there (.here _ _)))))))))))) | exact .there (.there (.there (.there (.there (.there (.there (.there (.there (.there (.there (.there (.there (.here _ _)))))))))))))) rfl, H.cell (b := p) (o := 2) (by first | exact .here _ _ | exact .there (.here _ _) | exact .there (.there (.here _ _)) | exact .there (.there (.there (.here _ _))) | exact .there (.there (.there (.there (.here _ _)))) | exact .there (.there (.there (.there (.there (.here _ _))))) | exact .there (.there (.there (.there (.there (.there (.here _ _)))))) | exact .there (.there (.there (.there (.there (.there (.there (.here _ _))))))) | exact .there (.there (.there (.there (.there (.there (.there (.there (.here _ _)))))))) | exact .there (.there (.there (.there (.there (.there (.there (.there (.there (.here _ _))))))))) | exact .there (.there (.there (.there (.there (.there (.there (.there (.there (.there (.here _ _)))))))))) | exact .there (.there (.there (.there (.there (.there (.there (.there (.there (.there (.there (.here _ _))))))))))) | exact .there (.there (.there (.there (.there (.there (.there (.there (.there (.there (.there (.there (.here _ _)))))))))))) | exact .there (.there (.there (.there (.there (.there (.there (.there (.there (.there (.there (.there (.there (.here _ _)))))))))))))) rfl⟩
  clear hK K
  ((try simp only [Act.put]); (try simp only [List.setIfInBounds_toArray]); (try simp only [List.set_cons_succ]); (try simp only [List.set_cons_zero]))
  refine wpAnyH_done (by kernel_rfl) ?_ _
  have hf := Lib.hid (hfin.out _ H)
  clear H hHeld hfin
  go_wp2_with fail
  refine bodyPost_end (results_none rfl _ _ _) rfl ⟨⟨_, rfl⟩, ?_⟩
  rw [hnl'.out]
  exact hf.out
end
end Go.Proofs.Ytcjmkpphohkofaa
