/- gram.Text's say: numbers behind a list of strings; gram.Name. -/
import Derived.Test.YtilpkfgdlehmpaaDoorFmtU
import Derived.Test.YtilpkfgdlehmpaaDoorEnc
namespace Go.Proofs.YtilpkfgdlehmpaaDoor
open Go.RowKit Go.Shelf
set_option linter.unusedVariables false

def uv (l : List Nat) : List Value := l.map fun (n : Nat) => Value.int .u64 (n : Int)
def stV (l : List ByteArray) : List Value := l.map Value.string
theorem stV_length (l : List ByteArray) : (stV l).length = l.length := by simp [stV]
theorem elemS : ElemK Tryd.prog 69 9 1 (.string ⟨#[]⟩) 16 := ⟨by kernel_rfl, by kernel_rfl, rfl, by decide⟩
abbrev TabU (w : World) : Prop := Lib.TabIs Tryd.prog w "internal/strconv.uint64pow10" .u64 Lib.pow10Tab
/-- The lines so far. -/
abbrev outP (b : Nat) (a : Option Addr) (c : Nat) (ss : List ByteArray) (L : List Pc) : List Pc := .blk b [.slice a ss.length c] 69 :: .own 9 1 (.slice a ss.length c) ss.length (stV ss) :: L

set_option maxRecDepth 100000 in
set_option maxHeartbeats 8000000 in
theorem say_c {b vb : Nat} {a : Option Addr} {c : Nat} (ss : List ByteArray) (us : List Nat) {L : List Pc} {w : World} (H : SL w (.blk vb (uv us) 22 :: outP b a c ss L)) (htab : ∀ V, SL V L → TabU V) (hu : ∀ u ∈ us, u < 18446744073709551616) (hl : us.length ≤ 100) (hs : ss.length ≤ 1000) :
    Calls Tryd.prog 36 #[.slice (some ⟨vb, 0, none⟩) us.length us.length, ptrV b] w fun e w' => (∃ v, e = .returned v) ∧ ∃ a' c', SL w' (.blk vb (uv us) 22 :: outP b a' c' (ss ++ us.map decS) L) := by
  have hH := Lib.hid H
  have ht := Lib.hid htab
  have hu' := Lib.hid hu
  obtain ⟨n, hn⟩ : ∃ n, us.length = n := ⟨_, rfl⟩
  have hn' := Lib.hid hn
  rw [hn] at hl ⊢
  clear H htab hu hn
  unfold ptrV
  go_enter Tryd.func36, Tryd.ntmps36
  go_wp2_with fail
  go_loopw [7] (fun i V => ∃ (k : Nat) (a : Option Addr) (c : Nat), k ≤ n ∧ i = .int .i64 k ∧ SL V (.blk vb (uv us) 22 :: outP b a c (ss ++ (us.take k).map decS) L)) (fun i _ => n - (intOf i).toNat)
  case atStart => exact ⟨0, a, c, by omega, rfl, by simpa using hH.out⟩
  case round =>
    clear hH
    obtain ⟨k, sa, sc, hk, rfl, H⟩ := hrel
    by_cases hkn : k < n
    · have hkl : k < us.length := by rw [hn'.out]; exact hkn
      have g0 := H.cell (b := vb) (o := k) (v := .int .u64 ((us[k]'hkl : Nat) : Int)) (.here _ _) (by simp [uv, hkl])
      have hnx : Hid (ss ++ (us.take (k + 1)).map decS = (ss ++ (us.take k).map decS) ++ [decS (us[k]'hkl)]) := Lib.hid (by rw [List.take_succ_eq_append_getElem hkl, List.map_append, List.append_assoc]; rfl)
      have huk := Lib.hid (hu'.out _ (List.getElem_mem hkl))
      generalize us[k]'hkl = u at *
      have hml : (ss ++ (us.take k).map decS).length ≤ 1100 := by rw [List.length_append, List.length_map, List.length_take]; omega
      generalize ss ++ (us.take k).map decS = ls at *
      obtain ⟨m, hm⟩ : ∃ m, ls.length = m := ⟨_, rfl⟩
      have hm' := Lib.hid hm
      simp only [outP] at H
      rw [hm] at H hml
      have hH := Lib.hid H
      have hfu := Lib.hid (fun V h => fmtU_c u huk.out V (ht.out V h))
      clear H hm hkl
      go_wp2_with fail
      clear g0
      refine wp_region_held_drew (S := (fun _ => True)) (by kernel_rfl) ?_ (fun hHeld => ?_)
      · trivial
      have H := hH.out.drew
      generalize World.drew wr = w5 at *
      clear hH
      refine takeL (i := 1) rfl (by kernel_rfl) (by kernel_rfl) (by kernel_rfl) (fun _ _ _ _ h => h) hHeld ?_ (Or.inl ⟨by rfl, ?_⟩) ?_
      rotate_left
      · intro W hW
        (try dsimp only at hW)
        first | (go_simp; done) | (go_simp; with_reducible rfl)
      ((try simp only [Act.put]); (try simp only [List.setIfInBounds_toArray]); (try simp only [List.set_cons_succ]); (try simp only [List.set_cons_zero]))
      refine callL2 (i := 0) (j := 2) rfl rfl (by kernel_rfl) (fun K hK => ?_) (fun K hK => ?_)
      · rw [if_pos (by rfl)]
        have c0 := H.cell (b := b) (o := 0) (by first | exact .here _ _ | exact .there (.here _ _) | exact .there (.there (.here _ _)) | exact .there (.there (.there (.here _ _))) | exact .there (.there (.there (.there (.here _ _)))) | exact .there (.there (.there (.there (.there (.here _ _))))) | exact .there (.there (.there (.there (.there (.there (.here _ _)))))) | exact .there (.there (.there (.there (.there (.there (.there (.here _ _))))))) | exact .there (.there (.there (.there (.there (.there (.there (.there (.here _ _)))))))) | exact .there (.there (.there (.there (.there (.there (.there (.there (.there (.here _ _))))))))) | exact .there (.there (.there (.there (.there (.there (.there (.there (.there (.there (.here _ _)))))))))) | exact .there (.there (.there (.there (.there (.there (.there (.there (.there (.there (.there (.here _ _))))))))))) | exact .there (.there (.there (.there (.there (.there (.there (.there (.there (.there (.there (.there (.here _ _)))))))))))) | exact .there (.there (.there (.there (.there (.there (.there (.there (.there (.there (.there (.there (.there (.here _ _)))))))))))))) rfl
        go_simp
        clear c0 hHeld
        refine hK.out _ _ ?_ (fun hHeld => ?_)
        · trivial
        clear hK K
        ((try simp only [Act.put]); (try simp only [List.setIfInBounds_toArray]); (try simp only [List.set_cons_succ]); (try simp only [List.set_cons_zero]))
        refine callL (i := 2) rfl (by kernel_rfl) (fun K hK => ?_)
        rw [if_pos (by rfl)]
        go_simp
        refine (hfu.out _ H.tail.tail.tail).mono ?_
        rintro e w6 ⟨rfl, hkp⟩
        have H' := H.quiet hkp
        clear H hHeld hkp
        have H := H'
        clear H'
        refine hK.out _ _ ?_ (fun hHeld => ?_)
        · trivial
        clear hK K
        ((try simp only [Act.put]); (try simp only [List.setIfInBounds_toArray]); (try simp only [List.set_cons_succ]); (try simp only [List.set_cons_zero]))
        refine callL (i := 3) rfl (by kernel_rfl) (fun K hK => ?_)
        rw [if_pos (by rfl)]
        go_simp
        have H' := H.alloc [.string (decS u)] 9
        clear H hHeld
        have H := H'
        clear H'
        generalize w6.alloc (.cells [Value.string (decS u)].toArray 9) = w7 at *
        generalize w6.heap.size = xb at *
        refine hK.out _ _ ?_ (fun hHeld => ?_)
        · trivial
        clear hK K
        ((try simp only [Act.put]); (try simp only [List.setIfInBounds_toArray]); (try simp only [List.set_cons_succ]); (try simp only [List.set_cons_zero]))
        refine callL (i := 4) rfl (by kernel_rfl) (fun K hK => ?_)
        rw [if_pos (by rfl)]
        have hrd : Rd w7 (some ⟨xb, 0, none⟩) [Value.string (decS u)].length (fun j => [Value.string (decS u)].getD j undef) := fun j hj => ⟨xb, 0, rfl, by
          obtain rfl : j = 0 := by simpa using hj
          exact H.cell (b := xb) (o := 0) (.here _ _) rfl⟩
        obtain ⟨v', w8, hrun, H8, -⟩ := SL.appended (P := Tryd.prog) (ty := 69) elemS (H.pull (.there (.there (.there (.here _ _))))) (m := 1) (c := 1) (ys := [.string (decS u)]) rfl hrd (by simp [Value.oneCell']) (by simp only [maxLen]; omega) (by omega) (fun h => by cases h)
        obtain ⟨va, vc, rfl, -⟩ := OwnK.slice H8.head
        refine Lib.wp_append_run _ _ _ _ _ rfl (.slice sa m sc) (.slice (some ⟨xb, 0, none⟩) 1 1) rfl rfl _ _ hrun ?_
        clear H hHeld hrd hrun
        have H := H8.re (.step (.there (.there (.there (.here _ _)))) (.step (.there (.there (.here _ _))) (.step (.here _ _) (.drop (.same _)))))
        clear H8
        refine hK.out _ _ ?_ (fun hHeld => ?_)
        · trivial
        clear hK K
        ((try simp only [Act.put]); (try simp only [List.setIfInBounds_toArray]); (try simp only [List.set_cons_succ]); (try simp only [List.set_cons_zero]))
        refine callL (i := 5) rfl (by kernel_rfl) (fun K hK => ?_)
        rw [if_pos (by rfl)]
        have c0 := H.cell (b := b) (o := 0) (.here _ _) rfl
        have f0 := H.free (b := b) (.here _ _) 0
        go_simp
        have H' := H.setCell 0 (.slice va (m + 1) vc)
        clear H hHeld c0 f0
        have H := H'
        clear H'
        refine hK.out _ _ ?_ (fun hHeld => ?_)
        · trivial
        clear hK K
        ((try simp only [Act.put]); (try simp only [List.setIfInBounds_toArray]); (try simp only [List.set_cons_succ]); (try simp only [List.set_cons_zero]))
        refine wpAnyH_done (by kernel_rfl) ?_ _
        have HE := Lib.hid (H.re (.step (.there (.here _ _)) (.same _)))
        clear H hHeld hfu
        go_wp2_with fail
        go_roundw
        case rel =>
          refine ⟨k + 1, va, vc, by omega, by go_num, ?_⟩
          rw [hnx.out]
          simp only [outP]
          rw [List.length_append, hm'.out, show stV (ls ++ [decS u]) = stV ls ++ [.string (decS u)] from by simp [stV]]
          exact HE.out
        case measure => (simp [intOf]; try omega)
      · rw [if_pos (by rfl)]
        go_simp
        refine (hfu.out _ H.tail.tail.tail).mono ?_
        rintro e w6 ⟨rfl, hkp⟩
        have H' := H.quiet hkp
        clear H hHeld hkp
        have H := H'
        clear H'
        refine hK.out _ _ ?_ (fun hHeld => ?_)
        · trivial
        clear hK K
        ((try simp only [Act.put]); (try simp only [List.setIfInBounds_toArray]); (try simp only [List.set_cons_succ]); (try simp only [List.set_cons_zero]))
        refine callL2 (i := 0) (j := 3) rfl rfl (by kernel_rfl) (fun K hK => ?_) (fun K hK => ?_)
        · rw [if_pos (by rfl)]
          have c0 := H.cell (b := b) (o := 0) (by first | exact .here _ _ | exact .there (.here _ _) | exact .there (.there (.here _ _)) | exact .there (.there (.there (.here _ _))) | exact .there (.there (.there (.there (.here _ _)))) | exact .there (.there (.there (.there (.there (.here _ _))))) | exact .there (.there (.there (.there (.there (.there (.here _ _)))))) | exact .there (.there (.there (.there (.there (.there (.there (.here _ _))))))) | exact .there (.there (.there (.there (.there (.there (.there (.there (.here _ _)))))))) | exact .there (.there (.there (.there (.there (.there (.there (.there (.there (.here _ _))))))))) | exact .there (.there (.there (.there (.there (.there (.there (.there (.there (.there (.here _ _)))))))))) | exact .there (.there (.there (.there (.there (.there (.there (.there (.there (.there (.there (.here _ _))))))))))) | exact .there (.there (.there (.there (.there (.there (.there (.there (.there (.there (.there (.there (.here _ _)))))))))))) | exact .there (.there (.there (.there (.there (.there (.there (.there (.there (.there (.there (.there (.there (.here _ _)))))))))))))) rfl
          go_simp
          clear c0 hHeld
          refine hK.out _ _ ?_ (fun hHeld => ?_)
          · trivial
          clear hK K
          ((try simp only [Act.put]); (try simp only [List.setIfInBounds_toArray]); (try simp only [List.set_cons_succ]); (try simp only [List.set_cons_zero]))
          refine callL (i := 3) rfl (by kernel_rfl) (fun K hK => ?_)
          rw [if_pos (by rfl)]
          go_simp
          have H' := H.alloc [.string (decS u)] 9
          clear H hHeld
          have H := H'
          clear H'
          generalize w6.alloc (.cells [Value.string (decS u)].toArray 9) = w7 at *
          generalize w6.heap.size = xb at *
          refine hK.out _ _ ?_ (fun hHeld => ?_)
          · trivial
          clear hK K
          ((try simp only [Act.put]); (try simp only [List.setIfInBounds_toArray]); (try simp only [List.set_cons_succ]); (try simp only [List.set_cons_zero]))
          refine callL (i := 4) rfl (by kernel_rfl) (fun K hK => ?_)
          rw [if_pos (by rfl)]
          have hrd : Rd w7 (some ⟨xb, 0, none⟩) [Value.string (decS u)].length (fun j => [Value.string (decS u)].getD j undef) := fun j hj => ⟨xb, 0, rfl, by
            obtain rfl : j = 0 := by simpa using hj
            exact H.cell (b := xb) (o := 0) (.here _ _) rfl⟩
          obtain ⟨v', w8, hrun, H8, -⟩ := SL.appended (P := Tryd.prog) (ty := 69) elemS (H.pull (.there (.there (.there (.here _ _))))) (m := 1) (c := 1) (ys := [.string (decS u)]) rfl hrd (by simp [Value.oneCell']) (by simp only [maxLen]; omega) (by omega) (fun h => by cases h)
          obtain ⟨va, vc, rfl, -⟩ := OwnK.slice H8.head
          refine Lib.wp_append_run _ _ _ _ _ rfl (.slice sa m sc) (.slice (some ⟨xb, 0, none⟩) 1 1) rfl rfl _ _ hrun ?_
          clear H hHeld hrd hrun
          have H := H8.re (.step (.there (.there (.there (.here _ _)))) (.step (.there (.there (.here _ _))) (.step (.here _ _) (.drop (.same _)))))
          clear H8
          refine hK.out _ _ ?_ (fun hHeld => ?_)
          · trivial
          clear hK K
          ((try simp only [Act.put]); (try simp only [List.setIfInBounds_toArray]); (try simp only [List.set_cons_succ]); (try simp only [List.set_cons_zero]))
          refine callL (i := 5) rfl (by kernel_rfl) (fun K hK => ?_)
          rw [if_pos (by rfl)]
          have c0 := H.cell (b := b) (o := 0) (.here _ _) rfl
          have f0 := H.free (b := b) (.here _ _) 0
          go_simp
          have H' := H.setCell 0 (.slice va (m + 1) vc)
          clear H hHeld c0 f0
          have H := H'
          clear H'
          refine hK.out _ _ ?_ (fun hHeld => ?_)
          · trivial
          clear hK K
          ((try simp only [Act.put]); (try simp only [List.setIfInBounds_toArray]); (try simp only [List.set_cons_succ]); (try simp only [List.set_cons_zero]))
          refine wpAnyH_done (by kernel_rfl) ?_ _
          have HE := Lib.hid (H.re (.step (.there (.here _ _)) (.same _)))
          clear H hHeld hfu
          go_wp2_with fail
          go_roundw
          case rel =>
            refine ⟨k + 1, va, vc, by omega, by go_num, ?_⟩
            rw [hnx.out]
            simp only [outP]
            rw [List.length_append, hm'.out, show stV (ls ++ [decS u]) = stV ls ++ [.string (decS u)] from by simp [stV]]
            exact HE.out
          case measure => (simp [intOf]; try omega)
        · rw [if_pos (by rfl)]
          go_simp
          have H' := H.alloc [.string (decS u)] 9
          clear H hHeld
          have H := H'
          clear H'
          generalize w6.alloc (.cells [Value.string (decS u)].toArray 9) = w7 at *
          generalize w6.heap.size = xb at *
          refine hK.out _ _ ?_ (fun hHeld => ?_)
          · trivial
          clear hK K
          ((try simp only [Act.put]); (try simp only [List.setIfInBounds_toArray]); (try simp only [List.set_cons_succ]); (try simp only [List.set_cons_zero]))
          refine callL (i := 0) rfl (by kernel_rfl) (fun K hK => ?_)
          rw [if_pos (by rfl)]
          have c0 := H.cell (b := b) (o := 0) (by first | exact .here _ _ | exact .there (.here _ _) | exact .there (.there (.here _ _)) | exact .there (.there (.there (.here _ _))) | exact .there (.there (.there (.there (.here _ _)))) | exact .there (.there (.there (.there (.there (.here _ _))))) | exact .there (.there (.there (.there (.there (.there (.here _ _)))))) | exact .there (.there (.there (.there (.there (.there (.there (.here _ _))))))) | exact .there (.there (.there (.there (.there (.there (.there (.there (.here _ _)))))))) | exact .there (.there (.there (.there (.there (.there (.there (.there (.there (.here _ _))))))))) | exact .there (.there (.there (.there (.there (.there (.there (.there (.there (.there (.here _ _)))))))))) | exact .there (.there (.there (.there (.there (.there (.there (.there (.there (.there (.there (.here _ _))))))))))) | exact .there (.there (.there (.there (.there (.there (.there (.there (.there (.there (.there (.there (.here _ _)))))))))))) | exact .there (.there (.there (.there (.there (.there (.there (.there (.there (.there (.there (.there (.there (.here _ _)))))))))))))) rfl
          go_simp
          clear c0 hHeld
          refine hK.out _ _ ?_ (fun hHeld => ?_)
          · trivial
          clear hK K
          ((try simp only [Act.put]); (try simp only [List.setIfInBounds_toArray]); (try simp only [List.set_cons_succ]); (try simp only [List.set_cons_zero]))
          refine callL (i := 4) rfl (by kernel_rfl) (fun K hK => ?_)
          rw [if_pos (by rfl)]
          have hrd : Rd w7 (some ⟨xb, 0, none⟩) [Value.string (decS u)].length (fun j => [Value.string (decS u)].getD j undef) := fun j hj => ⟨xb, 0, rfl, by
            obtain rfl : j = 0 := by simpa using hj
            exact H.cell (b := xb) (o := 0) (.here _ _) rfl⟩
          obtain ⟨v', w8, hrun, H8, -⟩ := SL.appended (P := Tryd.prog) (ty := 69) elemS (H.pull (.there (.there (.there (.here _ _))))) (m := 1) (c := 1) (ys := [.string (decS u)]) rfl hrd (by simp [Value.oneCell']) (by simp only [maxLen]; omega) (by omega) (fun h => by cases h)
          obtain ⟨va, vc, rfl, -⟩ := OwnK.slice H8.head
          refine Lib.wp_append_run _ _ _ _ _ rfl (.slice sa m sc) (.slice (some ⟨xb, 0, none⟩) 1 1) rfl rfl _ _ hrun ?_
          clear H hHeld hrd hrun
          have H := H8.re (.step (.there (.there (.there (.here _ _)))) (.step (.there (.there (.here _ _))) (.step (.here _ _) (.drop (.same _)))))
          clear H8
          refine hK.out _ _ ?_ (fun hHeld => ?_)
          · trivial
          clear hK K
          ((try simp only [Act.put]); (try simp only [List.setIfInBounds_toArray]); (try simp only [List.set_cons_succ]); (try simp only [List.set_cons_zero]))
          refine callL (i := 5) rfl (by kernel_rfl) (fun K hK => ?_)
          rw [if_pos (by rfl)]
          have c0 := H.cell (b := b) (o := 0) (.here _ _) rfl
          have f0 := H.free (b := b) (.here _ _) 0
          go_simp
          have H' := H.setCell 0 (.slice va (m + 1) vc)
          clear H hHeld c0 f0
          have H := H'
          clear H'
          refine hK.out _ _ ?_ (fun hHeld => ?_)
          · trivial
          clear hK K
          ((try simp only [Act.put]); (try simp only [List.setIfInBounds_toArray]); (try simp only [List.set_cons_succ]); (try simp only [List.set_cons_zero]))
          refine wpAnyH_done (by kernel_rfl) ?_ _
          have HE := Lib.hid (H.re (.step (.there (.here _ _)) (.same _)))
          clear H hHeld hfu
          go_wp2_with fail
          go_roundw
          case rel =>
            refine ⟨k + 1, va, vc, by omega, by go_num, ?_⟩
            rw [hnx.out]
            simp only [outP]
            rw [List.length_append, hm'.out, show stV (ls ++ [decS u]) = stV ls ++ [.string (decS u)] from by simp [stV]]
            exact HE.out
          case measure => (simp [intOf]; try omega)
    · obtain rfl : n = k := by omega
      have hF : Hid (SL wr (.blk vb (uv us) 22 :: outP b sa sc (ss ++ us.map decS) L)) := Lib.hid (by rw [← hn'.out, List.take_length] at H; exact H)
      clear H
      go_wp2_with fail
      go_end0
      exact ⟨⟨_, rfl⟩, sa, sc, hF.out⟩
end Go.Proofs.YtilpkfgdlehmpaaDoor
