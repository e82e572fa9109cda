/- The walk of the reference's New. -/
import Derived.Test.YtejgkehcplajhaaRef3
import Derived.Test.YtejgkehcplajhaaReg
namespace Go.Proofs.Ytejgkehcplajhaa
open Go.RowKit
set_option linter.unusedVariables false

theorem elemB : ElemK Try.prog 74 4 1 (.bool false) 1 := ⟨by kernel_rfl, by kernel_rfl, rfl, by decide⟩
theorem elemBB : ElemK Try.prog 71 74 1 (.slice none 0 0) 24 := ⟨by kernel_rfl, by kernel_rfl, rfl, by decide⟩

def RNewPost (ms : List Int) (fr n : Int) (w : World) (L : List Pc) (e : Ending) (w' : World) : Prop :=
  (¬ Good ms fr n ∧ e = .returned (.tuple #[.pointer none, .int .i64 250]) ∧ w = w') ∨
  (Good ms fr n ∧ ∃ q am cm ah ch vs, e = .returned (.tuple #[.pointer (some ⟨q, 0, none⟩), .int .i64 0]) ∧
    SL w' (refL q cm ch fr.toNat fr.toNat n.toNat am ah vs ms (fun _ => false) ++ L))

/-- The rows that nobody has met. -/
def falses (N : Nat) : List Bool := List.replicate N false
theorem rows_made (N : Nat) (vs : List Value) (v : Value) : rowsP N (vs ++ [v]) (List.replicate (vs.length + 1) (falses N)) = rowsP N vs (List.replicate vs.length (falses N)) ++ [rowPc N v (falses N)] := by
  induction vs with
  | nil => rfl
  | cons x vs ih => simp only [List.cons_append, List.length_cons, List.replicate_succ, rowsP] at ih ⊢; rw [ih]
theorem rows_first (fr N : Nat) (ms : List Int) : ms.map (rowOf fr fr N fun _ => false) = List.replicate ms.length (falses N) := by
  apply List.ext_getElem (by simp)
  intro i h1 h2
  simp only [List.getElem_map, List.getElem_replicate]
  apply List.ext_getElem (by simp [rowOf, falses])
  intro j h3 h4
  simp only [rowOf, List.getElem_map, List.getElem_range, falses, List.getElem_replicate, metB, Bool.and_false, Bool.or_false]
  rw [Bool.and_eq_false_iff]
  simp only [decide_eq_false_iff_not]
  omega

/-- The state of the loop that makes the rows. -/
def mkL (q cm ch k N : Nat) (fr : Int) (am ah : Option Addr) (vs : List Value) (ms : List Int) : List Pc :=
  .blk q [.slice am ms.length cm, .int .i64 fr, .int .i64 N, .slice ah k ch] 73 :: .own 74 1 (.slice ah k ch) k vs :: .own 3 1 (.slice am ms.length cm) ms.length (iv ms) :: rowsP N vs (List.replicate vs.length (falses N))

theorem made_falses (N : Nat) : (madeCells (Value.bool false).cells (N * 1)).toList = bvs (falses N) := by
  rw [made_one (.bool false) N rfl]
  simp [bvs, falses]

theorem mk_step {w : World} {L : List Pc} {q cm j N c' : Nat} {fr : Int} {am a' : Option Addr} {vs : List Value} {ms : List Int} {v : Value}
    (H : SL w (.blk q [.slice am ms.length cm, .int .i64 fr, .int .i64 N, .slice a' (j + 1) c'] 73 :: .own 74 1 (.slice a' (j + 1) c') (j + 1) (vs ++ [v]) :: .own 3 1 (.slice am ms.length cm) ms.length (iv ms) :: rowPc N v (falses N) :: (rowsP N vs (List.replicate vs.length (falses N)) ++ L))) (hv : vs.length = j) :
    SL w (mkL q cm c' (j + 1) N fr am a' (vs ++ [v]) ms ++ L) := by
  unfold mkL
  rw [List.length_append, List.length_singleton, rows_made]
  refine H.perm ?_
  simp only [List.cons_append]
  refine .cons _ (.cons _ (.cons _ ?_))
  rw [List.append_assoc, List.singleton_append]
  exact List.perm_middle.symm

set_option maxHeartbeats 4000000 in
theorem refNew_c (ms : List Int) (fr n : Int) (a : Option Addr) (c : Nat) (w : World) {L : List Pc} (H : SL w L) (hl : ms.length ≤ 100) (hr : RdI w a ms) (hnil : a = none → c = 0) :
    Calls Try.prog 15 #[.slice a ms.length c, .int .i64 fr, .int .i64 n] w (RNewPost ms fr n w L) := by
  have hr' := Lib.hid hr
  have hH := Lib.hid H
  have hnil' := Lib.hid hnil
  obtain ⟨M, hM⟩ : ∃ M, ms.length = M := ⟨_, rfl⟩
  have hM' := Lib.hid hM
  rw [hM] at hl ⊢
  clear hr hM H hnil
  go_enter Try.func15, Try.ntmps15
  go_wp2_with fail
  go_loop [8, 9] (fun l i => ∃ k : Nat, k ≤ M ∧ i = .int .i64 k ∧ l = .int .i64 (prevI ms k) ∧ Hid (∀ j, j < k → okAt ms j)) (fun _ i => M - (intOf i).toNat)
  case atStart => exact ⟨0, by omega, rfl, by simp [prevI], Lib.hid (by intro j h; omega)⟩
  case round =>
    obtain ⟨k, hk, rfl, rfl, hok⟩ := hrel
    by_cases hkn : k < M
    · have hkm : k < ms.length := by rw [hM'.out]; exact hkn
      obtain ⟨b, o, rfl, hc⟩ := cell_d hr'.out hkm
      by_cases h : okAt ms k
      · have hok2 := Lib.hid (show ∀ j, j < k + 1 → okAt ms j from fun j hj => by
          by_cases e : j = k
          · subst e; exact h
          · exact hok.out j (by omega))
        have hpv := Lib.hid (show prevI ms (k + 1) = ms.getD k 0 by unfold prevI; rw [if_neg (by omega)]; rfl)
        obtain ⟨h1, h2⟩ := h
        generalize ms.getD k 0 = y at *
        generalize prevI ms k = z at *
        clear hok
        go_wp2_with fail
        go_round
        case rel => exact ⟨k + 1, by omega, by go_num, by rw [hpv.out], hok2⟩
        case measure => (simp [intOf]; try omega)
      · have hng : Hid (¬ Good ms fr n) := Lib.hid fun hg => h (hg.1 k hkm)
        have hb : ms.getD k 0 ≤ prevI ms k ∨ (prevI ms k < ms.getD k 0 ∧ 63 < ms.getD k 0) := by unfold okAt at h; omega
        generalize ms.getD k 0 = y at *
        generalize prevI ms k = z at *
        clear hok h
        rcases hb with hb | ⟨hb, hb2⟩
        all_goals
          go_wp2_with fail
          go_ret2
          exact .inl ⟨hng.out, rfl, rfl⟩
    · obtain rfl : k = M := by omega
      by_cases hg : ms ≠ [] ∧ 0 ≤ n ∧ n ≤ 1000 ∧ 0 ≤ fr ∧ fr ≤ n
      · have hG := Lib.hid (show Good ms fr n from ⟨by rw [hM'.out]; exact hok.out, hg⟩)
        obtain ⟨g1, g2, g3, g4, g5⟩ := hg
        have hk1 : 1 ≤ k := by
          have := hM'.out
          cases ms with
          | nil => exact absurd rfl g1
          | cons x l => simp at this; omega
        have hpv : 0 ≤ prevI ms k := by
          have : ∀ j, j ≤ k → -1 ≤ prevI ms j ∧ (0 < j → 0 ≤ prevI ms j) := by
            intro j
            induction j with
            | zero => intro _; exact ⟨by simp [prevI], by omega⟩
            | succ j ih =>
              intro hj
              have h1 := (hok.out j (by omega)).1
              have h2 := (ih (by omega)).1
              have h3 : prevI ms (j + 1) = ms.getD j 0 := by unfold prevI; rw [if_neg (by omega)]; rfl
              rw [h3]; exact ⟨by omega, by omega⟩
          exact (this k (Nat.le_refl _)).2 (by omega)
        obtain ⟨N, rfl⟩ : ∃ N : Nat, n = N := ⟨n.toNat, by omega⟩
        generalize prevI ms k = z at *
        clear g1 hok
        go_wp2_with (
          at_builtin
          have H1 := (hH.out.pure (q := .own 3 1 (.slice none 0 0) 0 []) (OwnK.nil _ _ _ _) (fun b h => by cases h)).alloc [.slice none 0 0, .int .i64 fr, .int .i64 N, .slice none 0 0] 73
          have R1 := hr'.out.rd.no ((Kp.refl no w).alloc (.cells [Value.slice none 0 0, .int .i64 fr, .int .i64 N, .slice none 0 0].toArray 73))
          refine sl_app H1 rfl _ _ _ rfl elemI _ rfl (.there (.here _ _)) (iv ms) rfl (by rw [iv_length, hM'.out, Nat.mul_one]) R1 (iv_one ms) (by simp only [maxLen]; omega) (by omega) hnil'.out ?_
          intro v' w3 H3 hnil
          obtain ⟨am, cm, rfl, -⟩ := OwnK.slice H3.head
          have H := H3
          generalize w.heap.size = q at *
          (have C := H.cells; dsimp only [cellsOf, Pc.cells, cellsFrom, iset, Nat.zero_add, Nat.reduceAdd] at C; (try simp only [true_and] at C); (try simp only [and_true] at C))
          clear H1 R1 hnil)
        have H4 := (H3.pull (.there (.here _ _))).setCell 0 (.slice am (0 + k) cm)
        simp only [Nat.zero_add] at H4 ⊢
        generalize World.setCell _ _ _ = w4 at *
        have H4' := Lib.hid H4
        clear H H3 H4 C hH
        go_wp2_with fail
        go_loopw [11] (fun i V => ∃ (j : Nat) (ah : Option Addr) (ch : Nat) (vs : List Value), j ≤ k ∧ Hid (vs.length = j) ∧ i = .int .i64 j ∧ SL V (mkL q cm ch j N fr am ah vs ms ++ L)) (fun i _ => k - (intOf i).toNat)
        case atStart =>
          refine ⟨0, none, 0, [], by omega, Lib.hid rfl, rfl, ?_⟩
          unfold mkL
          rw [hM'.out]
          exact (H4'.out.pure (q := .own 74 1 (.slice none 0 0) 0 []) (OwnK.nil _ _ _ _) (fun b h => by cases h)).perm (List.Perm.swap _ _ _)
        case round =>
          obtain ⟨j, ah, ch, vs, hj, hvl, rfl, H⟩ := hrel
          clear H4'
          have hH := Lib.hid H
          unfold mkL at H
          simp only [List.cons_append] at H
          by_cases hjk : j < k
          · (have C := H.cells; dsimp only [cellsOf, Pc.cells, cellsFrom, iset, Nat.zero_add, Nat.reduceAdd] at C; (try simp only [true_and] at C); (try simp only [and_true] at C))
            have H0 := Lib.hid H
            clear H
            go_wp2_with fail
            -- REGION15
            refine wp_region_any (by kernel_rfl) ?_
            try (change wpAny _ _ _ _ _ _ _ (World.drew _))
            have H := H0.out.drew
            generalize World.drew _ = w0 at *
            (have C := H.cells; dsimp only [cellsOf, Pc.cells, cellsFrom, iset, Nat.zero_add, Nat.reduceAdd] at C; (try simp only [true_and] at C); (try simp only [and_true] at C))
            refine takeW (i := 0) rfl (by kernel_rfl) (by kernel_rfl) (by kernel_rfl) (fun _ _ _ _ h => h) ?_ (Or.inl ⟨by rfl, ?_⟩) ?_
            rotate_left
            · intro W
              first | (go_simp; done) | (go_simp; with_reducible rfl)
            ((try simp only [Act.put]); (try simp only [List.setIfInBounds_toArray]); (try simp only [List.set_cons_succ]); (try simp only [List.set_cons_zero]))
            refine takeW (i := 1) rfl (by kernel_rfl) (by kernel_rfl) (by kernel_rfl) (fun _ _ _ _ h => h) ?_ (Or.inl ⟨by rfl, ?_⟩) ?_
            rotate_left
            · intro W
              first | (go_simp; done) | (go_simp; with_reducible rfl)
            ((try simp only [Act.put]); (try simp only [List.setIfInBounds_toArray]); (try simp only [List.set_cons_succ]); (try simp only [List.set_cons_zero]))
            refine takeW (i := 2) rfl (by kernel_rfl) (by kernel_rfl) (by kernel_rfl) (fun _ _ _ _ h => h) ?_ (Or.inl ⟨by rfl, ?_⟩) ?_
            rotate_left
            · intro W
              first | (go_simp; done) | (go_simp; with_reducible rfl)
            ((try simp only [Act.put]); (try simp only [List.setIfInBounds_toArray]); (try simp only [List.set_cons_succ]); (try simp only [List.set_cons_zero]))
            refine takeW (i := 3) rfl (by kernel_rfl) (by kernel_rfl) (by kernel_rfl) (fun _ _ _ _ h => h) ?_ (Or.inl ⟨by rfl, ?_⟩) ?_
            rotate_left
            · intro W
              first | (go_simp; done) | (go_simp; with_reducible rfl)
            ((try simp only [Act.put]); (try simp only [List.setIfInBounds_toArray]); (try simp only [List.set_cons_succ]); (try simp only [List.set_cons_zero]))
            refine takeW (i := 5) rfl (by kernel_rfl) (by kernel_rfl) (by kernel_rfl) (fun _ _ _ _ h => h) ?_ (Or.inl ⟨by rfl, ?_⟩) ?_
            rotate_left
            · intro W
              first | (go_simp; done) | (go_simp; with_reducible rfl)
            ((try simp only [Act.put]); (try simp only [List.setIfInBounds_toArray]); (try simp only [List.set_cons_succ]); (try simp only [List.set_cons_zero]))
            refine wpAny_ready (rs := [4, 6]) (by kernel_rfl) (by simp) ?_
            refine AllReady.cons rfl (fun K hK => ?_) ?_
            · rw [if_pos (by rfl)]
              go_simp
              refine hK _ _ ?_
              clear hK K
              ((try simp only [Act.put]); (try simp only [List.setIfInBounds_toArray]); (try simp only [List.set_cons_succ]); (try simp only [List.set_cons_zero]))
              refine wpAny_ready (rs := [6]) (by kernel_rfl) (by simp) ?_
              refine AllReady.cons rfl (fun K hK => ?_) ?_
              · rw [if_pos (by rfl)]
                refine wpo_make H _ _ _ rfl elemB .i64 .i64 N rfl rfl (by omega) (by simp only [maxLen]; omega) ?_
                clear H C
                intro b w0 H
                rw [made_falses] at H
                (have C := H.cells; dsimp only [cellsOf, Pc.cells, cellsFrom, iset, Nat.zero_add, Nat.reduceAdd] at C; (try simp only [true_and] at C); (try simp only [and_true] at C))
                refine hK _ _ ?_
                clear hK K
                ((try simp only [Act.put]); (try simp only [List.setIfInBounds_toArray]); (try simp only [List.set_cons_succ]); (try simp only [List.set_cons_zero]))
                refine wpAny_ready (rs := [7]) (by kernel_rfl) (by simp) ?_
                refine AllReady.cons rfl (fun K hK => ?_) ?_
                · rw [if_pos (by rfl)]
                  go_simp
                  have H1 := H.alloc [.slice (some ⟨b, 0, none⟩) N N] 74
                  generalize w0.heap.size = b2 at *
                  generalize w0.alloc (.cells [Value.slice (some ⟨b, 0, none⟩) N N].toArray 74) = w1 at *
                  clear H C w0
                  have H := H1
                  rename World => w0
                  clear H1
                  (have C := H.cells; dsimp only [cellsOf, Pc.cells, cellsFrom, iset, Nat.zero_add, Nat.reduceAdd] at C; (try simp only [true_and] at C); (try simp only [and_true] at C))
                  refine hK _ _ ?_
                  clear hK K
                  ((try simp only [Act.put]); (try simp only [List.setIfInBounds_toArray]); (try simp only [List.set_cons_succ]); (try simp only [List.set_cons_zero]))
                  refine wpAny_ready (rs := [8]) (by kernel_rfl) (by simp) ?_
                  refine AllReady.cons rfl (fun K hK => ?_) ?_
                  · rw [if_pos (by rfl)]
                    refine wpo_app H _ _ _ rfl elemBB _ rfl (by first | exact .here _ _ | exact .there (.here _ _) | exact .there (.there (.here _ _)) | exact .there (.there (.there (.here _ _))) | exact .there (.there (.there (.there (.here _ _)))) | exact .there (.there (.there (.there (.there (.here _ _))))) | exact .there (.there (.there (.there (.there (.there (.here _ _)))))) | exact .there (.there (.there (.there (.there (.there (.there (.here _ _))))))) | exact .there (.there (.there (.there (.there (.there (.there (.there (.here _ _)))))))) | exact .there (.there (.there (.there (.there (.there (.there (.there (.there (.here _ _))))))))) | exact .there (.there (.there (.there (.there (.there (.there (.there (.there (.there (.here _ _)))))))))) | exact .there (.there (.there (.there (.there (.there (.there (.there (.there (.there (.there (.here _ _))))))))))) | exact .there (.there (.there (.there (.there (.there (.there (.there (.there (.there (.there (.there (.here _ _)))))))))))) | exact .there (.there (.there (.there (.there (.there (.there (.there (.there (.there (.there (.there (.there (.here _ _)))))))))))))) [.slice (some ⟨b, 0, none⟩) N N] rfl rfl (H.rdBlk (by first | exact .here _ _ | exact .there (.here _ _) | exact .there (.there (.here _ _)) | exact .there (.there (.there (.here _ _))) | exact .there (.there (.there (.there (.here _ _)))) | exact .there (.there (.there (.there (.there (.here _ _))))) | exact .there (.there (.there (.there (.there (.there (.here _ _)))))) | exact .there (.there (.there (.there (.there (.there (.there (.here _ _))))))) | exact .there (.there (.there (.there (.there (.there (.there (.there (.here _ _)))))))) | exact .there (.there (.there (.there (.there (.there (.there (.there (.there (.here _ _))))))))) | exact .there (.there (.there (.there (.there (.there (.there (.there (.there (.there (.here _ _)))))))))) | exact .there (.there (.there (.there (.there (.there (.there (.there (.there (.there (.there (.here _ _))))))))))) | exact .there (.there (.there (.there (.there (.there (.there (.there (.there (.there (.there (.there (.here _ _)))))))))))) | exact .there (.there (.there (.there (.there (.there (.there (.there (.there (.there (.there (.there (.there (.here _ _))))))))))))))) (by simp [Value.oneCell']) (by simp only [maxLen]; omega) (by omega) (fun h => by cases h) ?_
                    clear H C
                    intro a' c' w0 H
                    (have C := H.cells; dsimp only [cellsOf, Pc.cells, cellsFrom, iset, Nat.zero_add, Nat.reduceAdd] at C; (try simp only [true_and] at C); (try simp only [and_true] at C))
                    refine hK _ _ ?_
                    clear hK K
                    ((try simp only [Act.put]); (try simp only [List.setIfInBounds_toArray]); (try simp only [List.set_cons_succ]); (try simp only [List.set_cons_zero]))
                    refine takeW (i := 9) rfl (by kernel_rfl) (by kernel_rfl) (by kernel_rfl) (fun _ _ _ _ h => h) ?_ (Or.inl ⟨by rfl, ?_⟩) ?_
                    rotate_left
                    · intro W
                      first | (go_simp; done) | (go_simp; with_reducible rfl)
                    ((try simp only [Act.put]); (try simp only [List.setIfInBounds_toArray]); (try simp only [List.set_cons_succ]); (try simp only [List.set_cons_zero]))
                    refine takeW (i := 10) rfl (by kernel_rfl) (by kernel_rfl) (by kernel_rfl) (fun _ _ _ _ h => h) ?_ (Or.inl ⟨by rfl, ?_⟩) ?_
                    rotate_left
                    · intro W
                      first | (go_simp; done) | (go_simp; with_reducible rfl)
                    ((try simp only [Act.put]); (try simp only [List.setIfInBounds_toArray]); (try simp only [List.set_cons_succ]); (try simp only [List.set_cons_zero]))
                    refine wpAny_ready (rs := [11]) (by kernel_rfl) (by simp) ?_
                    refine AllReady.cons rfl (fun K hK => ?_) ?_
                    · rw [if_pos (by rfl)]
                      go_simp
                      have H1 := (H.pull (p := .blk q _ _) (by first | exact .here _ _ | exact .there (.here _ _) | exact .there (.there (.here _ _)) | exact .there (.there (.there (.here _ _))) | exact .there (.there (.there (.there (.here _ _)))) | exact .there (.there (.there (.there (.there (.here _ _))))) | exact .there (.there (.there (.there (.there (.there (.here _ _)))))) | exact .there (.there (.there (.there (.there (.there (.there (.here _ _))))))) | exact .there (.there (.there (.there (.there (.there (.there (.there (.here _ _)))))))) | exact .there (.there (.there (.there (.there (.there (.there (.there (.there (.here _ _))))))))) | exact .there (.there (.there (.there (.there (.there (.there (.there (.there (.there (.here _ _)))))))))) | exact .there (.there (.there (.there (.there (.there (.there (.there (.there (.there (.there (.here _ _))))))))))) | exact .there (.there (.there (.there (.there (.there (.there (.there (.there (.there (.there (.there (.here _ _)))))))))))) | exact .there (.there (.there (.there (.there (.there (.there (.there (.there (.there (.there (.there (.there (.here _ _))))))))))))))).setCell 3 (.slice a' (j + 1) c')
                      generalize w0.setCell ⟨q, 3, none⟩ (.slice a' (j + 1) c') = w1 at *
                      clear H C w0
                      have H := H1
                      clear H1
                      refine hK _ _ ?_
                      clear hK K
                      ((try simp only [Act.put]); (try simp only [List.setIfInBounds_toArray]); (try simp only [List.set_cons_succ]); (try simp only [List.set_cons_zero]))
                      refine wpAny_done (by kernel_rfl) ?_ _
                      have H5 := H.re (L' := .blk q [.slice am ms.length cm, .int .i64 fr, .int .i64 N, .slice a' (j + 1) c'] 73 :: .own 74 1 (.slice a' (j + 1) c') (j + 1) (vs ++ [.slice (some ⟨b, 0, none⟩) N N]) :: .own 3 1 (.slice am ms.length cm) ms.length (iv ms) :: rowPc N (.slice (some ⟨b, 0, none⟩) N N) (falses N) :: (rowsP N vs (List.replicate vs.length (falses N)) ++ L)) (by repeat (first | exact Re.same _ | refine Re.step (by first | exact .here _ _ | exact .there (.here _ _) | exact .there (.there (.here _ _)) | exact .there (.there (.there (.here _ _))) | exact .there (.there (.there (.there (.here _ _)))) | exact .there (.there (.there (.there (.there (.here _ _))))) | exact .there (.there (.there (.there (.there (.there (.here _ _)))))) | exact .there (.there (.there (.there (.there (.there (.there (.here _ _))))))) | exact .there (.there (.there (.there (.there (.there (.there (.there (.here _ _)))))))) | exact .there (.there (.there (.there (.there (.there (.there (.there (.there (.here _ _))))))))) | exact .there (.there (.there (.there (.there (.there (.there (.there (.there (.there (.here _ _)))))))))) | exact .there (.there (.there (.there (.there (.there (.there (.there (.there (.there (.there (.here _ _))))))))))) | exact .there (.there (.there (.there (.there (.there (.there (.there (.there (.there (.there (.there (.here _ _)))))))))))) | exact .there (.there (.there (.there (.there (.there (.there (.there (.there (.there (.there (.there (.there (.here _ _)))))))))))))) ?_ | refine Re.drop ?_))
                      have H6 := Lib.hid (mk_step H5 hvl.out)
                      clear H H5
                      go_wp2_with fail
                      go_roundw
                      case rel => exact ⟨j + 1, a', c', vs ++ [.slice (some ⟨b, 0, none⟩) N N], by omega, Lib.hid (by rw [List.length_append, hvl.out]; rfl), by go_num, H6.out⟩
                      case measure => (simp [intOf]; try omega)
                    exact AllReady.nil
                  exact AllReady.nil
                exact AllReady.nil
              exact AllReady.nil
            refine AllReady.cons rfl (fun K hK => ?_) ?_
            · rw [if_pos (by rfl)]
              refine wpo_make H _ _ _ rfl elemB .i64 .i64 N rfl rfl (by omega) (by simp only [maxLen]; omega) ?_
              clear H C
              intro b w0 H
              rw [made_falses] at H
              (have C := H.cells; dsimp only [cellsOf, Pc.cells, cellsFrom, iset, Nat.zero_add, Nat.reduceAdd] at C; (try simp only [true_and] at C); (try simp only [and_true] at C))
              refine hK _ _ ?_
              clear hK K
              ((try simp only [Act.put]); (try simp only [List.setIfInBounds_toArray]); (try simp only [List.set_cons_succ]); (try simp only [List.set_cons_zero]))
              refine wpAny_ready (rs := [4, 7]) (by kernel_rfl) (by simp) ?_
              refine AllReady.cons rfl (fun K hK => ?_) ?_
              · rw [if_pos (by rfl)]
                go_simp
                refine hK _ _ ?_
                clear hK K
                ((try simp only [Act.put]); (try simp only [List.setIfInBounds_toArray]); (try simp only [List.set_cons_succ]); (try simp only [List.set_cons_zero]))
                refine wpAny_ready (rs := [7]) (by kernel_rfl) (by simp) ?_
                refine AllReady.cons rfl (fun K hK => ?_) ?_
                · rw [if_pos (by rfl)]
                  go_simp
                  have H1 := H.alloc [.slice (some ⟨b, 0, none⟩) N N] 74
                  generalize w0.heap.size = b2 at *
                  generalize w0.alloc (.cells [Value.slice (some ⟨b, 0, none⟩) N N].toArray 74) = w1 at *
                  clear H C w0
                  have H := H1
                  rename World => w0
                  clear H1
                  (have C := H.cells; dsimp only [cellsOf, Pc.cells, cellsFrom, iset, Nat.zero_add, Nat.reduceAdd] at C; (try simp only [true_and] at C); (try simp only [and_true] at C))
                  refine hK _ _ ?_
                  clear hK K
                  ((try simp only [Act.put]); (try simp only [List.setIfInBounds_toArray]); (try simp only [List.set_cons_succ]); (try simp only [List.set_cons_zero]))
                  refine wpAny_ready (rs := [8]) (by kernel_rfl) (by simp) ?_
                  refine AllReady.cons rfl (fun K hK => ?_) ?_
                  · rw [if_pos (by rfl)]
                    refine wpo_app H _ _ _ rfl elemBB _ rfl (by first | exact .here _ _ | exact .there (.here _ _) | exact .there (.there (.here _ _)) | exact .there (.there (.there (.here _ _))) | exact .there (.there (.there (.there (.here _ _)))) | exact .there (.there (.there (.there (.there (.here _ _))))) | exact .there (.there (.there (.there (.there (.there (.here _ _)))))) | exact .there (.there (.there (.there (.there (.there (.there (.here _ _))))))) | exact .there (.there (.there (.there (.there (.there (.there (.there (.here _ _)))))))) | exact .there (.there (.there (.there (.there (.there (.there (.there (.there (.here _ _))))))))) | exact .there (.there (.there (.there (.there (.there (.there (.there (.there (.there (.here _ _)))))))))) | exact .there (.there (.there (.there (.there (.there (.there (.there (.there (.there (.there (.here _ _))))))))))) | exact .there (.there (.there (.there (.there (.there (.there (.there (.there (.there (.there (.there (.here _ _)))))))))))) | exact .there (.there (.there (.there (.there (.there (.there (.there (.there (.there (.there (.there (.there (.here _ _)))))))))))))) [.slice (some ⟨b, 0, none⟩) N N] rfl rfl (H.rdBlk (by first | exact .here _ _ | exact .there (.here _ _) | exact .there (.there (.here _ _)) | exact .there (.there (.there (.here _ _))) | exact .there (.there (.there (.there (.here _ _)))) | exact .there (.there (.there (.there (.there (.here _ _))))) | exact .there (.there (.there (.there (.there (.there (.here _ _)))))) | exact .there (.there (.there (.there (.there (.there (.there (.here _ _))))))) | exact .there (.there (.there (.there (.there (.there (.there (.there (.here _ _)))))))) | exact .there (.there (.there (.there (.there (.there (.there (.there (.there (.here _ _))))))))) | exact .there (.there (.there (.there (.there (.there (.there (.there (.there (.there (.here _ _)))))))))) | exact .there (.there (.there (.there (.there (.there (.there (.there (.there (.there (.there (.here _ _))))))))))) | exact .there (.there (.there (.there (.there (.there (.there (.there (.there (.there (.there (.there (.here _ _)))))))))))) | exact .there (.there (.there (.there (.there (.there (.there (.there (.there (.there (.there (.there (.there (.here _ _))))))))))))))) (by simp [Value.oneCell']) (by simp only [maxLen]; omega) (by omega) (fun h => by cases h) ?_
                    clear H C
                    intro a' c' w0 H
                    (have C := H.cells; dsimp only [cellsOf, Pc.cells, cellsFrom, iset, Nat.zero_add, Nat.reduceAdd] at C; (try simp only [true_and] at C); (try simp only [and_true] at C))
                    refine hK _ _ ?_
                    clear hK K
                    ((try simp only [Act.put]); (try simp only [List.setIfInBounds_toArray]); (try simp only [List.set_cons_succ]); (try simp only [List.set_cons_zero]))
                    refine takeW (i := 9) rfl (by kernel_rfl) (by kernel_rfl) (by kernel_rfl) (fun _ _ _ _ h => h) ?_ (Or.inl ⟨by rfl, ?_⟩) ?_
                    rotate_left
                    · intro W
                      first | (go_simp; done) | (go_simp; with_reducible rfl)
                    ((try simp only [Act.put]); (try simp only [List.setIfInBounds_toArray]); (try simp only [List.set_cons_succ]); (try simp only [List.set_cons_zero]))
                    refine takeW (i := 10) rfl (by kernel_rfl) (by kernel_rfl) (by kernel_rfl) (fun _ _ _ _ h => h) ?_ (Or.inl ⟨by rfl, ?_⟩) ?_
                    rotate_left
                    · intro W
                      first | (go_simp; done) | (go_simp; with_reducible rfl)
                    ((try simp only [Act.put]); (try simp only [List.setIfInBounds_toArray]); (try simp only [List.set_cons_succ]); (try simp only [List.set_cons_zero]))
                    refine wpAny_ready (rs := [11]) (by kernel_rfl) (by simp) ?_
                    refine AllReady.cons rfl (fun K hK => ?_) ?_
                    · rw [if_pos (by rfl)]
                      go_simp
                      have H1 := (H.pull (p := .blk q _ _) (by first | exact .here _ _ | exact .there (.here _ _) | exact .there (.there (.here _ _)) | exact .there (.there (.there (.here _ _))) | exact .there (.there (.there (.there (.here _ _)))) | exact .there (.there (.there (.there (.there (.here _ _))))) | exact .there (.there (.there (.there (.there (.there (.here _ _)))))) | exact .there (.there (.there (.there (.there (.there (.there (.here _ _))))))) | exact .there (.there (.there (.there (.there (.there (.there (.there (.here _ _)))))))) | exact .there (.there (.there (.there (.there (.there (.there (.there (.there (.here _ _))))))))) | exact .there (.there (.there (.there (.there (.there (.there (.there (.there (.there (.here _ _)))))))))) | exact .there (.there (.there (.there (.there (.there (.there (.there (.there (.there (.there (.here _ _))))))))))) | exact .there (.there (.there (.there (.there (.there (.there (.there (.there (.there (.there (.there (.here _ _)))))))))))) | exact .there (.there (.there (.there (.there (.there (.there (.there (.there (.there (.there (.there (.there (.here _ _))))))))))))))).setCell 3 (.slice a' (j + 1) c')
                      generalize w0.setCell ⟨q, 3, none⟩ (.slice a' (j + 1) c') = w1 at *
                      clear H C w0
                      have H := H1
                      clear H1
                      refine hK _ _ ?_
                      clear hK K
                      ((try simp only [Act.put]); (try simp only [List.setIfInBounds_toArray]); (try simp only [List.set_cons_succ]); (try simp only [List.set_cons_zero]))
                      refine wpAny_done (by kernel_rfl) ?_ _
                      have H5 := H.re (L' := .blk q [.slice am ms.length cm, .int .i64 fr, .int .i64 N, .slice a' (j + 1) c'] 73 :: .own 74 1 (.slice a' (j + 1) c') (j + 1) (vs ++ [.slice (some ⟨b, 0, none⟩) N N]) :: .own 3 1 (.slice am ms.length cm) ms.length (iv ms) :: rowPc N (.slice (some ⟨b, 0, none⟩) N N) (falses N) :: (rowsP N vs (List.replicate vs.length (falses N)) ++ L)) (by repeat (first | exact Re.same _ | refine Re.step (by first | exact .here _ _ | exact .there (.here _ _) | exact .there (.there (.here _ _)) | exact .there (.there (.there (.here _ _))) | exact .there (.there (.there (.there (.here _ _)))) | exact .there (.there (.there (.there (.there (.here _ _))))) | exact .there (.there (.there (.there (.there (.there (.here _ _)))))) | exact .there (.there (.there (.there (.there (.there (.there (.here _ _))))))) | exact .there (.there (.there (.there (.there (.there (.there (.there (.here _ _)))))))) | exact .there (.there (.there (.there (.there (.there (.there (.there (.there (.here _ _))))))))) | exact .there (.there (.there (.there (.there (.there (.there (.there (.there (.there (.here _ _)))))))))) | exact .there (.there (.there (.there (.there (.there (.there (.there (.there (.there (.there (.here _ _))))))))))) | exact .there (.there (.there (.there (.there (.there (.there (.there (.there (.there (.there (.there (.here _ _)))))))))))) | exact .there (.there (.there (.there (.there (.there (.there (.there (.there (.there (.there (.there (.there (.here _ _)))))))))))))) ?_ | refine Re.drop ?_))
                      have H6 := Lib.hid (mk_step H5 hvl.out)
                      clear H H5
                      go_wp2_with fail
                      go_roundw
                      case rel => exact ⟨j + 1, a', c', vs ++ [.slice (some ⟨b, 0, none⟩) N N], by omega, Lib.hid (by rw [List.length_append, hvl.out]; rfl), by go_num, H6.out⟩
                      case measure => (simp [intOf]; try omega)
                    exact AllReady.nil
                  exact AllReady.nil
                exact AllReady.nil
              refine AllReady.cons rfl (fun K hK => ?_) ?_
              · rw [if_pos (by rfl)]
                go_simp
                have H1 := H.alloc [.slice (some ⟨b, 0, none⟩) N N] 74
                generalize w0.heap.size = b2 at *
                generalize w0.alloc (.cells [Value.slice (some ⟨b, 0, none⟩) N N].toArray 74) = w1 at *
                clear H C w0
                have H := H1
                rename World => w0
                clear H1
                (have C := H.cells; dsimp only [cellsOf, Pc.cells, cellsFrom, iset, Nat.zero_add, Nat.reduceAdd] at C; (try simp only [true_and] at C); (try simp only [and_true] at C))
                refine hK _ _ ?_
                clear hK K
                ((try simp only [Act.put]); (try simp only [List.setIfInBounds_toArray]); (try simp only [List.set_cons_succ]); (try simp only [List.set_cons_zero]))
                refine wpAny_ready (rs := [4]) (by kernel_rfl) (by simp) ?_
                refine AllReady.cons rfl (fun K hK => ?_) ?_
                · rw [if_pos (by rfl)]
                  go_simp
                  refine hK _ _ ?_
                  clear hK K
                  ((try simp only [Act.put]); (try simp only [List.setIfInBounds_toArray]); (try simp only [List.set_cons_succ]); (try simp only [List.set_cons_zero]))
                  refine wpAny_ready (rs := [8]) (by kernel_rfl) (by simp) ?_
                  refine AllReady.cons rfl (fun K hK => ?_) ?_
                  · rw [if_pos (by rfl)]
                    refine wpo_app H _ _ _ rfl elemBB _ rfl (by first | exact .here _ _ | exact .there (.here _ _) | exact .there (.there (.here _ _)) | exact .there (.there (.there (.here _ _))) | exact .there (.there (.there (.there (.here _ _)))) | exact .there (.there (.there (.there (.there (.here _ _))))) | exact .there (.there (.there (.there (.there (.there (.here _ _)))))) | exact .there (.there (.there (.there (.there (.there (.there (.here _ _))))))) | exact .there (.there (.there (.there (.there (.there (.there (.there (.here _ _)))))))) | exact .there (.there (.there (.there (.there (.there (.there (.there (.there (.here _ _))))))))) | exact .there (.there (.there (.there (.there (.there (.there (.there (.there (.there (.here _ _)))))))))) | exact .there (.there (.there (.there (.there (.there (.there (.there (.there (.there (.there (.here _ _))))))))))) | exact .there (.there (.there (.there (.there (.there (.there (.there (.there (.there (.there (.there (.here _ _)))))))))))) | exact .there (.there (.there (.there (.there (.there (.there (.there (.there (.there (.there (.there (.there (.here _ _)))))))))))))) [.slice (some ⟨b, 0, none⟩) N N] rfl rfl (H.rdBlk (by first | exact .here _ _ | exact .there (.here _ _) | exact .there (.there (.here _ _)) | exact .there (.there (.there (.here _ _))) | exact .there (.there (.there (.there (.here _ _)))) | exact .there (.there (.there (.there (.there (.here _ _))))) | exact .there (.there (.there (.there (.there (.there (.here _ _)))))) | exact .there (.there (.there (.there (.there (.there (.there (.here _ _))))))) | exact .there (.there (.there (.there (.there (.there (.there (.there (.here _ _)))))))) | exact .there (.there (.there (.there (.there (.there (.there (.there (.there (.here _ _))))))))) | exact .there (.there (.there (.there (.there (.there (.there (.there (.there (.there (.here _ _)))))))))) | exact .there (.there (.there (.there (.there (.there (.there (.there (.there (.there (.there (.here _ _))))))))))) | exact .there (.there (.there (.there (.there (.there (.there (.there (.there (.there (.there (.there (.here _ _)))))))))))) | exact .there (.there (.there (.there (.there (.there (.there (.there (.there (.there (.there (.there (.there (.here _ _))))))))))))))) (by simp [Value.oneCell']) (by simp only [maxLen]; omega) (by omega) (fun h => by cases h) ?_
                    clear H C
                    intro a' c' w0 H
                    (have C := H.cells; dsimp only [cellsOf, Pc.cells, cellsFrom, iset, Nat.zero_add, Nat.reduceAdd] at C; (try simp only [true_and] at C); (try simp only [and_true] at C))
                    refine hK _ _ ?_
                    clear hK K
                    ((try simp only [Act.put]); (try simp only [List.setIfInBounds_toArray]); (try simp only [List.set_cons_succ]); (try simp only [List.set_cons_zero]))
                    refine takeW (i := 9) rfl (by kernel_rfl) (by kernel_rfl) (by kernel_rfl) (fun _ _ _ _ h => h) ?_ (Or.inl ⟨by rfl, ?_⟩) ?_
                    rotate_left
                    · intro W
                      first | (go_simp; done) | (go_simp; with_reducible rfl)
                    ((try simp only [Act.put]); (try simp only [List.setIfInBounds_toArray]); (try simp only [List.set_cons_succ]); (try simp only [List.set_cons_zero]))
                    refine takeW (i := 10) rfl (by kernel_rfl) (by kernel_rfl) (by kernel_rfl) (fun _ _ _ _ h => h) ?_ (Or.inl ⟨by rfl, ?_⟩) ?_
                    rotate_left
                    · intro W
                      first | (go_simp; done) | (go_simp; with_reducible rfl)
                    ((try simp only [Act.put]); (try simp only [List.setIfInBounds_toArray]); (try simp only [List.set_cons_succ]); (try simp only [List.set_cons_zero]))
                    refine wpAny_ready (rs := [11]) (by kernel_rfl) (by simp) ?_
                    refine AllReady.cons rfl (fun K hK => ?_) ?_
                    · rw [if_pos (by rfl)]
                      go_simp
                      have H1 := (H.pull (p := .blk q _ _) (by first | exact .here _ _ | exact .there (.here _ _) | exact .there (.there (.here _ _)) | exact .there (.there (.there (.here _ _))) | exact .there (.there (.there (.there (.here _ _)))) | exact .there (.there (.there (.there (.there (.here _ _))))) | exact .there (.there (.there (.there (.there (.there (.here _ _)))))) | exact .there (.there (.there (.there (.there (.there (.there (.here _ _))))))) | exact .there (.there (.there (.there (.there (.there (.there (.there (.here _ _)))))))) | exact .there (.there (.there (.there (.there (.there (.there (.there (.there (.here _ _))))))))) | exact .there (.there (.there (.there (.there (.there (.there (.there (.there (.there (.here _ _)))))))))) | exact .there (.there (.there (.there (.there (.there (.there (.there (.there (.there (.there (.here _ _))))))))))) | exact .there (.there (.there (.there (.there (.there (.there (.there (.there (.there (.there (.there (.here _ _)))))))))))) | exact .there (.there (.there (.there (.there (.there (.there (.there (.there (.there (.there (.there (.there (.here _ _))))))))))))))).setCell 3 (.slice a' (j + 1) c')
                      generalize w0.setCell ⟨q, 3, none⟩ (.slice a' (j + 1) c') = w1 at *
                      clear H C w0
                      have H := H1
                      clear H1
                      refine hK _ _ ?_
                      clear hK K
                      ((try simp only [Act.put]); (try simp only [List.setIfInBounds_toArray]); (try simp only [List.set_cons_succ]); (try simp only [List.set_cons_zero]))
                      refine wpAny_done (by kernel_rfl) ?_ _
                      have H5 := H.re (L' := .blk q [.slice am ms.length cm, .int .i64 fr, .int .i64 N, .slice a' (j + 1) c'] 73 :: .own 74 1 (.slice a' (j + 1) c') (j + 1) (vs ++ [.slice (some ⟨b, 0, none⟩) N N]) :: .own 3 1 (.slice am ms.length cm) ms.length (iv ms) :: rowPc N (.slice (some ⟨b, 0, none⟩) N N) (falses N) :: (rowsP N vs (List.replicate vs.length (falses N)) ++ L)) (by repeat (first | exact Re.same _ | refine Re.step (by first | exact .here _ _ | exact .there (.here _ _) | exact .there (.there (.here _ _)) | exact .there (.there (.there (.here _ _))) | exact .there (.there (.there (.there (.here _ _)))) | exact .there (.there (.there (.there (.there (.here _ _))))) | exact .there (.there (.there (.there (.there (.there (.here _ _)))))) | exact .there (.there (.there (.there (.there (.there (.there (.here _ _))))))) | exact .there (.there (.there (.there (.there (.there (.there (.there (.here _ _)))))))) | exact .there (.there (.there (.there (.there (.there (.there (.there (.there (.here _ _))))))))) | exact .there (.there (.there (.there (.there (.there (.there (.there (.there (.there (.here _ _)))))))))) | exact .there (.there (.there (.there (.there (.there (.there (.there (.there (.there (.there (.here _ _))))))))))) | exact .there (.there (.there (.there (.there (.there (.there (.there (.there (.there (.there (.there (.here _ _)))))))))))) | exact .there (.there (.there (.there (.there (.there (.there (.there (.there (.there (.there (.there (.there (.here _ _)))))))))))))) ?_ | refine Re.drop ?_))
                      have H6 := Lib.hid (mk_step H5 hvl.out)
                      clear H H5
                      go_wp2_with fail
                      go_roundw
                      case rel => exact ⟨j + 1, a', c', vs ++ [.slice (some ⟨b, 0, none⟩) N N], by omega, Lib.hid (by rw [List.length_append, hvl.out]; rfl), by go_num, H6.out⟩
                      case measure => (simp [intOf]; try omega)
                    exact AllReady.nil
                  exact AllReady.nil
                exact AllReady.nil
              exact AllReady.nil
            exact AllReady.nil
        -- END15
          · obtain rfl : j = k := by omega
            (have C := H.cells; dsimp only [cellsOf, Pc.cells, cellsFrom, iset, Nat.zero_add, Nat.reduceAdd] at C; (try simp only [true_and] at C); (try simp only [and_true] at C))
            clear H
            go_wp2_with fail
            go_ret2
            refine .inr ⟨hG.out, q, am, cm, ah, ch, vs, rfl, ?_⟩
            have hv2 : vs.length = ms.length := by rw [hvl.out, hM'.out]
            have h := hH.out
            unfold mkL at h
            unfold refL
            have e1 : ((fr.toNat : Nat) : Int) = fr := by omega
            have e2 : ((N : Int)).toNat = N := by omega
            rw [e1, e2, rows_first, ← hv2]
            rw [hvl.out]
            rw [hM'.out, hvl.out] at h
            exact h.perm ((List.Perm.swap _ _ _).cons _)
      · have hb : k = 0 ∨ (0 < k ∧ n < 0) ∨ (0 < k ∧ 0 ≤ n ∧ 1000 < n) ∨ (0 < k ∧ 0 ≤ n ∧ n ≤ 1000 ∧ fr < 0) ∨ (0 < k ∧ 0 ≤ n ∧ n ≤ 1000 ∧ 0 ≤ fr ∧ n < fr) := by
          by_cases h0 : k = 0
          · exact .inl h0
          · have : ms ≠ [] := by rintro rfl; have := hM'.out; simp at this; omega
            simp only [this, ne_eq, not_false_eq_true, true_and] at hg
            omega
        have hfin : ∀ e, e = .returned (.tuple #[.pointer none, .int .i64 250]) → RNewPost ms fr n w L e w := fun e he => .inl ⟨fun h => hg h.2, he, rfl⟩
        have hfin' := Lib.hid hfin
        have hpz : k = 0 → prevI ms k = -1 := by rintro rfl; rfl
        have hpv : 0 < k → 0 ≤ prevI ms k := by
          have : ∀ j, j ≤ k → -1 ≤ prevI ms j ∧ (0 < j → 0 ≤ prevI ms j) := by
            intro j
            induction j with
            | zero => intro _; exact ⟨by simp [prevI], by omega⟩
            | succ j ih =>
              intro hj
              have h1 := (hok.out j (by omega)).1
              have h2 := (ih (by omega)).1
              have h3 : prevI ms (j + 1) = ms.getD j 0 := by unfold prevI; rw [if_neg (by omega)]; rfl
              rw [h3]; exact ⟨by omega, by omega⟩
          exact (this k (Nat.le_refl _)).2
        generalize prevI ms k = z at *
        clear hg hfin hok
        rcases hb with rfl | ⟨hb, hb1⟩ | ⟨hb, hb1, hb2⟩ | ⟨hb, hb1, hb2, hb3⟩ | ⟨hb, hb1, hb2, hb3, hb4⟩
        · have hz := hpz rfl
          clear hpz hpv
          subst hz
          go_wp2_with fail
          go_ret2
          exact hfin'.out _ rfl
        all_goals
          have hz := hpv hb
          clear hpz hpv
          go_wp2_with fail
          go_ret2
          exact hfin'.out _ rfl
end Go.Proofs.Ytejgkehcplajhaa
