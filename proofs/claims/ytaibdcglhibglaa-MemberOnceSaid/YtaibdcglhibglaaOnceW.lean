/- The walk of the law MemberOnce. -/
import Derived.Test.YtaibdcglhibglaaOnceM
import Derived.Test.YtaibdcglhibglaaAlive
namespace Go.Proofs.Ytaibdcglhibglaa
open Go.RowKit
set_option linter.unusedVariables false
set_option linter.unusedSimpArgs false

theorem aliveS {w : World} {L : List Pc} (H : SL w L) : Calls Try.prog 8 #[] w fun e w' => e = .returned (.bool true) ∧ SL w' L := (alive_k w).mono fun _ _ ⟨e, h⟩ => ⟨e, H.quiet h⟩

theorem cmpSS_c {w : World} {L : List Pc} (H : SL w L) {N By M Cy : Int} {n : Int} (h : cmpE N By M Cy = n) : Calls Try.prog 14 #[.agg #[.int .u32 N, .int .i64 By], .agg #[.int .u32 M, .int .i64 Cy]] w fun e w' => e = .returned (.int .i64 n) ∧ SL w' L := by
  subst h
  exact (cmp_c N By M Cy w).mono fun _ _ ⟨e, h⟩ => ⟨e, H.quiet h⟩
theorem sameQ {w : World} {L : List Pc} (H : SL w L) {N By M Cy : Int} {l k : List Int} {a b : Option Addr} {m1 m2 ca cb : Nat} (hE : N = M ∧ By = Cy) (h1 : l.length = m1) (h2 : k.length = m2) (hlk : l = k) (hl : l.length ≤ 1000000) (ha : RdI w a l) (hb : RdI w b k) :
    Calls Try.prog 15 #[.agg #[.int .u32 N, .int .i64 By, .slice a m1 ca], .agg #[.int .u32 M, .int .i64 Cy, .slice b m2 cb]] w fun r w' => r = .returned (.bool true) ∧ SL w' L := by
  subst h1 h2
  refine (same_c N By M Cy l k a b ca cb w hl ha hb).mono fun _ _ ⟨e, h⟩ => ⟨?_, H.quiet h⟩
  rw [e, decide_eq_true hlk, decide_eq_true hE]; rfl

set_option maxRecDepth 100000 in
set_option maxHeartbeats 16000000 in
theorem once_c (a : Option Addr) (n cap : Nat) (f : Nat → ActM) (w : World) (hn : n ≤ 9223372036854775807) (ho : RdActs w a n f) :
    Calls Try.prog 3 #[.slice a n cap] w fun r w' => r = .returned (.bool true) ∧ Kp no w w' := by
  have ho' := Lib.hid ho
  have c := Lib.hid (aliveS (SL.start w))
  clear ho
  have hq := fun (w : World) (a : Option Addr) (n c : Nat) => Lib.run_eql_slice_nil (P := Try.prog) w 24 35 a n c 0 0 Try.underlying24
  go_enter Try.func3, Try.ntmps3
  go_wp2_with fail
  refine c.out.mono ?_
  rintro r W1 ⟨rfl, H⟩
  have c1 := Lib.hid (six_c H)
  clear H c
  go_wp2_with fail
  refine c1.out.mono ?_
  rintro r W2 ⟨mb, mc, p, g, rfl, H⟩
  clear c1
  by_cases h200 : 200 < n
  · have hd : decide ((200 : Int) < (n : Int)) = true := by simp; omega
    have hk := Lib.hid ((all_tail H.tail).kp (show Pull _ (.old w no) _ from (by first | exact .here _ _ | exact .there (.here _ _) | exact .there (.there (.here _ _)) | exact .there (.there (.there (.here _ _))) | exact .there (.there (.there (.there (.here _ _)))) | exact .there (.there (.there (.there (.there (.here _ _))))) | exact .there (.there (.there (.there (.there (.there (.here _ _)))))) | exact .there (.there (.there (.there (.there (.there (.there (.here _ _))))))) | exact .there (.there (.there (.there (.there (.there (.there (.there (.here _ _)))))))) | exact .there (.there (.there (.there (.there (.there (.there (.there (.there (.here _ _))))))))) | exact .there (.there (.there (.there (.there (.there (.there (.there (.there (.there (.here _ _)))))))))) | exact .there (.there (.there (.there (.there (.there (.there (.there (.there (.there (.there (.here _ _))))))))))) | exact .there (.there (.there (.there (.there (.there (.there (.there (.there (.there (.there (.there (.here _ _)))))))))))) | exact .there (.there (.there (.there (.there (.there (.there (.there (.there (.there (.there (.there (.there (.here _ _))))))))))))))))
    clear H h200
    go_wp2_with fail
    go_ret
    exact ⟨rfl, hk.out⟩
  have hd : decide ((200 : Int) < (n : Int)) = false := by simp; omega
  have hn200 : n ≤ 200 := by omega
  have H1 := all_in H
  have H2 := all_in (H1.pure (q := .own 34 3 (.slice none 0 0) 0 []) (OwnK.nil _ _ _ _) (fun b h => by cases h))
  have H3 : SL W2 (ALLN 6 p g (fun i => St0 i 5 6) (TT mb mc p [] none 0 w)) := all_re H2 (.step (.there (.here _ _)) (.step (.here _ _) (.same _)))
  have hst := Lib.hid (show OnceR mb mc p [] none 0 w W2 from ⟨by simp, g, _, ⟨⟨by simp, by simp, by simp⟩, fun i hi => OneI.first hi⟩, H3⟩)
  clear H H1 H2 H3 h200 hn
  go_wp2_with fail
  clear hq
  go_loopw [36, 5] (fun i t V => ∃ (k : Nat) (vs : List Vw) (va : Option Addr) (vc : Nat), k ≤ n ∧ i = .int .i64 k ∧ t = .slice va vs.length vc ∧ vs.length ≤ k ∧ OnceR mb mc p vs va vc w V) (fun i _ _ => n - (intOf i).toNat)
  case atStart => exact ⟨0, [], none, 0, by omega, rfl, rfl, by simp, hst.out⟩
  case round =>
    clear hst
    obtain ⟨k, vs, va, vc, hk, rfl, rfl, hvk, hv200, g, x, hI, H⟩ := hrel
    have hI' := Lib.hid hI
    have hkp := tt_kp (all_tail H)
    by_cases hkn : k < n
    · obtain ⟨bo, oo, rfl, hat0, hs0, hs1⟩ := ho'.out k hkn
      obtain ⟨X, hX⟩ : ∃ X, f k = X := ⟨_, rfl⟩
      rw [hX] at hat0 hs0 hs1
      obtain ⟨kk, A, B, s, N⟩ := X
      dsimp only at hs0 hs1
      have hact := Lib.hid (fun V (h : Kp no w V) => hat0.no h)
      unfold ActAt at hact
      dsimp only at hact
      obtain ⟨k0, k1, -, -, -⟩ := hact.out _ hkp
      obtain ⟨z, a, hz1, hz2, hz3, hz4, hz5, ha⟩ := mod6 A
      have hax := (hI.one a ha).ok
      have hown := (all_tail H).ownOf (show Pull _ (.own 35 1 (.slice (some ⟨mb, 0, none⟩) 6 mc) 6 (pv p 6)) _ from .here _ _)
      have hptr := Lib.hid (fun V (h : OwnK V 0 35 1 (.slice (some ⟨mb, 0, none⟩) 6 mc) 6 (pv p 6)) i (hi : i < 6) => (own_cell h hi).1.trans (by rw [pv_get p hi]))
      have hpa := hptr.out _ hown a ha
      have c := Lib.hid (allView H ha hax)
      clear hX hat0 hown H hI hax hkp
      go_wp2_with fail
      refine c.out.mono ?_
      rintro r W3 ⟨a8, c8, rfl, H⟩
      clear c k0 k1 hpa
      obtain ⟨y, hy⟩ : ∃ y, x a = y := ⟨_, rfl⟩
      have hy' := Lib.hid hy
      rw [hy] at H ⊢
      clear hy
      have H4 := all_in (H.alloc [.int .u32 y.N, .int .i64 y.By, .slice a8 y.ms.length c8] 34)
      have k0 := (hact.out _ (tt_kp (all_tail H4).tail.tail)).1
      have hH := Lib.hid H4
      clear H H4
      go_upto_block 2 with fail
      generalize W3.alloc (.cells #[.int .u32 y.N, .int .i64 y.By, .slice a8 y.ms.length c8] 34) = w4 at *
      generalize W3.heap.size = b8 at *
      obtain ⟨E8, hE8⟩ : ∃ E, ([.blk b8 [.int .u32 y.N, .int .i64 y.By, .slice a8 y.ms.length c8] 34, .own 3 1 (.slice a8 y.ms.length c8) y.ms.length (iv y.ms)] : List Pc) = E := ⟨_, rfl⟩
      have hE8' := Lib.hid hE8
      have hH4 : Hid (SL w4 (ALLN 6 p g x (E8 ++ TT mb mc p vs va vc w))) := Lib.hid (by rw [← hE8]; exact hH.out)
      clear hH hE8
      go_cut [5, 9, 10, 11, 12, 13, 14] from 57 to 154 (fun v _ _ _ _ _ _ V => ∃ (vs' : List Vw) (va' : Option Addr) (vc' : Nat), v = .slice va' vs'.length vc' ∧ vs'.length ≤ k + 1 ∧ OnceX mb mc p vs' va' vc' w E8 a y V)
      case first =>
        as_aux_lemma =>
          have hya := Lib.hid (show OneI a vs y from by rw [← hy'.out]; exact hI'.out.one a ha)
          by_cases hk0 : kk = 0
          · obtain rfl : kk = 0 := hk0
            obtain ⟨zb, b, hb1, hb2, hb3, hb4, hb5, hb⟩ := mod6 B
            have kB := (hact.out _ (ett_kp (all_tail hH4.out))).2.2.1
            have hpb := ett_ptr (all_tail hH4.out) hb
            have hN := Lib.hid ((hI'.out.one b hb).N_in hI'.out.vsi)
            have c := Lib.hid (allView hH4.out hb (hI'.out.one b hb).ok)
            clear hz1 hz2 hz3 hz4 hz5 hH4
            go_wp2_with fail
            refine c.out.mono ?_
            rintro r W5 ⟨a9, c9, rfl, H⟩
            clear c kB hpb hb1 hb2 hb3 hb4 hb5
            generalize (x b).N = N9 at *
            generalize (x b).By = By9 at *
            generalize (x b).ms = ms9 at *
            have H4 := all_in (H.alloc [.int .u32 N9, .int .i64 By9, .slice a9 ms9.length c9] 34)
            have hH := Lib.hid H4
            clear H H4 k0
            go_wp2_with fail
            generalize W5.alloc (.cells #[.int .u32 N9, .int .i64 By9, .slice a9 ms9.length c9] 34) = w6 at *
            generalize W5.heap.size = b9 at *
            refine wp_region_held_drew (S := (fun W => W.cell? ⟨mb, a, none⟩ = some (.pointer (some ⟨p a, 0, none⟩)) ∧ W.cell? ⟨b9, 0, none⟩ = some (.int .u32 N9) ∧ W.cell? ⟨b9, 1, none⟩ = some (.int .i64 By9))) (by kernel_rfl) ?_ (fun hHeld => ?_)
            · have h := hH.out.drew
              exact ⟨ett_ptr (all_tail h).tail.tail ha, (all_tail h).cell (o := 0) (.here _ _) rfl, (all_tail h).cell (o := 1) (.here _ _) rfl⟩
            have H := hH.out.drew
            generalize World.drew w6 = w7 at *
            clear hH
            have hai : (a : Int) < 6 := by omega
            refine takeL (i := 0) rfl (by kernel_rfl) (by kernel_rfl) (by kernel_rfl) (fun _ _ _ _ h => h) hHeld ?_ (Or.inl ⟨by rfl, ?_⟩) ?_
            rotate_left
            · intro W hW
              (try dsimp only at hW)
              first | (go_simp; done) | (go_simp; with_reducible rfl)
            ((try simp only [Act.put]); (try simp only [List.setIfInBounds_toArray]); (try simp only [List.set_cons_succ]); (try simp only [List.set_cons_zero]))
            refine takeL (i := 1) rfl (by kernel_rfl) (by kernel_rfl) (by kernel_rfl) (fun _ _ _ _ h => h) hHeld ?_ (Or.inl ⟨by rfl, ?_⟩) ?_
            rotate_left
            · intro W hW
              (try dsimp only at hW)
              first | (go_simp; done) | (go_simp; with_reducible rfl)
            ((try simp only [Act.put]); (try simp only [List.setIfInBounds_toArray]); (try simp only [List.set_cons_succ]); (try simp only [List.set_cons_zero]))
            refine takeL (i := 2) rfl (by kernel_rfl) (by kernel_rfl) (by kernel_rfl) (fun _ _ _ _ h => h) hHeld ?_ (Or.inl ⟨by rfl, ?_⟩) ?_
            rotate_left
            · intro W hW
              (try dsimp only at hW)
              first | (go_simp; done) | (go_simp; with_reducible rfl)
            ((try simp only [Act.put]); (try simp only [List.setIfInBounds_toArray]); (try simp only [List.set_cons_succ]); (try simp only [List.set_cons_zero]))
            refine takeL (i := 3) rfl (by kernel_rfl) (by kernel_rfl) (by kernel_rfl) (fun _ _ _ _ h => h) hHeld ?_ (Or.inl ⟨by rfl, ?_⟩) ?_
            rotate_left
            · intro W hW
              (try dsimp only at hW)
              first | (go_simp; done) | (go_simp; with_reducible rfl)
            ((try simp only [Act.put]); (try simp only [List.setIfInBounds_toArray]); (try simp only [List.set_cons_succ]); (try simp only [List.set_cons_zero]))
            refine takeL (i := 4) rfl (by kernel_rfl) (by kernel_rfl) (by kernel_rfl) (fun _ _ _ _ h => h) hHeld ?_ (Or.inl ⟨by rfl, ?_⟩) ?_
            rotate_left
            · intro W hW
              (try dsimp only at hW)
              first | (go_simp; done) | (go_simp; with_reducible rfl)
            ((try simp only [Act.put]); (try simp only [List.setIfInBounds_toArray]); (try simp only [List.set_cons_succ]); (try simp only [List.set_cons_zero]))
            refine takeL (i := 5) rfl (by kernel_rfl) (by kernel_rfl) (by kernel_rfl) (fun _ _ _ _ h => h) hHeld ?_ (Or.inl ⟨by rfl, ?_⟩) ?_
            rotate_left
            · intro W hW
              (try dsimp only at hW)
              first | (go_simp; done) | (go_simp; with_reducible rfl)
            ((try simp only [Act.put]); (try simp only [List.setIfInBounds_toArray]); (try simp only [List.set_cons_succ]); (try simp only [List.set_cons_zero]))
            refine callL (i := 6) rfl (by kernel_rfl) (fun K hK => ?_)
            rw [if_pos (by rfl)]
            go_simp
            refine (allHeard H ha (hI'.out.one a ha).ok N9 By9).mono ?_
            rintro r w8 ⟨⟨v, rfl⟩, g', H5⟩
            clear H hHeld
            have H := H5
            clear H5
            refine hK.out _ _ ?_ (fun hHeld => ?_)
            · exact ⟨ett_ptr (all_tail H).tail.tail ha, (all_tail H).cell (o := 0) (.here _ _) rfl, (all_tail H).cell (o := 1) (.here _ _) rfl⟩
            clear hK K
            ((try simp only [Act.put]); (try simp only [List.setIfInBounds_toArray]); (try simp only [List.set_cons_succ]); (try simp only [List.set_cons_zero]))
            refine wpAnyH_done (by kernel_rfl) ?_ _
            
            have hH := Lib.hid H
            clear H hHeld
            go_wp2_with fail
            go_meet
            case rel =>
              obtain ⟨q1, q2⟩ := hya.out.heard (M := N9) (Cy := By9) hN.out.1 hN.out.2
              rw [← hy'.out] at q1 q2
              exact ⟨vs, va, vc, rfl, by omega, g', _, hI'.out.upd q1, by rw [upd_same, ← hy'.out]; exact q2, all_re hH.out (.drop (.drop (.same _)))⟩
          have hk0b : (kk == 0) = false := by simpa using hk0
          by_cases hk1 : kk = 1
          · obtain rfl : kk = 1 := hk1
            clear hz1 hz2 hz3 hz4 hz5
            go_wp2_with fail
            go_loopw [11, 10] (fun i t V => ∃ (j m : Nat) (aa : Option Addr) (cc : Nat) (l : List Int), j ≤ 6 ∧ i = .int .i64 j ∧ t = .slice aa m cc ∧ l.length = m ∧ m ≤ j ∧ SL V (.own 3 1 (.slice aa m cc) m (iv l) :: ALLN 6 p g x (E8 ++ TT mb mc p vs va vc w))) (fun i _ _ => 6 - (intOf i).toNat)
            case atStart => exact ⟨0, 0, none, 0, [], by omega, rfl, rfl, rfl, by omega, hH4.out.pure (q := .own 3 1 (.slice none 0 0) 0 (iv [])) (OwnK.nil _ _ _ _) (fun b h => by cases h)⟩
            case round =>
              clear hH4 k0
              obtain ⟨j, m, aa, cc, l, hj, rfl, rfl, hm, hmj, H⟩ := hrel
              have kS := (hact.out _ (ett_kp (all_tail H.tail))).2.2.2.1
              by_cases hj6 : j < 6
              · have hm6 : m ≤ 6 := by omega
                have hm' := Lib.hid hm
                have hH := Lib.hid H
                clear hm H
                have hjj : j = 0 ∨ j = 1 ∨ j = 2 ∨ j = 3 ∨ j = 4 ∨ j = 5 := by omega
                clear hj hj6
                rcases hjj with rfl | rfl | rfl | rfl | rfl | rfl
                · rw [show ((0 : Nat) : Int) = 0 from rfl]
                  obtain ⟨e, he⟩ : ∃ e, (bits BinOp.and IntKind.u8 s 1 == 1) = e := ⟨_, rfl⟩
                  cases e
                  · go_wp2_with fail
                    go_roundw
                    case rel => exact ⟨1, m, aa, cc, l, by omega, rfl, rfl, hm'.out, by omega, hH.out⟩
                    case measure => (simp [intOf]; try omega)
                  · go_wp2_with (
                      at_builtin
                      refine sl_app (hH.out.alloc [.int .i64 0] 3) rfl _ _ _ rfl elemI _ rfl (.there (.here _ _)) [.int .i64 0] rfl rfl (rd_newK _ _ _) (by simp [Value.oneCell']) (by simp only [maxLen]; omega) (by omega) (fun h => by cases h) ?_
                      intro v' w3 H3 hnil
                      obtain ⟨a', c', rfl, -⟩ := OwnK.slice H3.head
                      have H4 := Lib.hid (H3.re (.step (.here _ _) (.drop (.same _))))
                      clear H3 hnil)
                    go_roundw
                    case rel => exact ⟨1, m + 1, a', c', l ++ [0], by omega, rfl, rfl, by simp [hm'.out], by omega, by rw [iv_append]; exact H4.out⟩
                    case measure => (simp [intOf]; try omega)
                · rw [show ((1 : Nat) : Int) = 1 from rfl]
                  obtain ⟨e, he⟩ : ∃ e, (bits BinOp.and IntKind.u8 (s / 2) 1 == 1) = e := ⟨_, rfl⟩
                  cases e
                  · go_wp2_with fail
                    go_roundw
                    case rel => exact ⟨2, m, aa, cc, l, by omega, rfl, rfl, hm'.out, by omega, hH.out⟩
                    case measure => (simp [intOf]; try omega)
                  · go_wp2_with (
                      at_builtin
                      refine sl_app (hH.out.alloc [.int .i64 1] 3) rfl _ _ _ rfl elemI _ rfl (.there (.here _ _)) [.int .i64 1] rfl rfl (rd_newK _ _ _) (by simp [Value.oneCell']) (by simp only [maxLen]; omega) (by omega) (fun h => by cases h) ?_
                      intro v' w3 H3 hnil
                      obtain ⟨a', c', rfl, -⟩ := OwnK.slice H3.head
                      have H4 := Lib.hid (H3.re (.step (.here _ _) (.drop (.same _))))
                      clear H3 hnil)
                    go_roundw
                    case rel => exact ⟨2, m + 1, a', c', l ++ [1], by omega, rfl, rfl, by simp [hm'.out], by omega, by rw [iv_append]; exact H4.out⟩
                    case measure => (simp [intOf]; try omega)
                · rw [show ((2 : Nat) : Int) = 2 from rfl]
                  obtain ⟨e, he⟩ : ∃ e, (bits BinOp.and IntKind.u8 (s / 4) 1 == 1) = e := ⟨_, rfl⟩
                  cases e
                  · go_wp2_with fail
                    go_roundw
                    case rel => exact ⟨3, m, aa, cc, l, by omega, rfl, rfl, hm'.out, by omega, hH.out⟩
                    case measure => (simp [intOf]; try omega)
                  · go_wp2_with (
                      at_builtin
                      refine sl_app (hH.out.alloc [.int .i64 2] 3) rfl _ _ _ rfl elemI _ rfl (.there (.here _ _)) [.int .i64 2] rfl rfl (rd_newK _ _ _) (by simp [Value.oneCell']) (by simp only [maxLen]; omega) (by omega) (fun h => by cases h) ?_
                      intro v' w3 H3 hnil
                      obtain ⟨a', c', rfl, -⟩ := OwnK.slice H3.head
                      have H4 := Lib.hid (H3.re (.step (.here _ _) (.drop (.same _))))
                      clear H3 hnil)
                    go_roundw
                    case rel => exact ⟨3, m + 1, a', c', l ++ [2], by omega, rfl, rfl, by simp [hm'.out], by omega, by rw [iv_append]; exact H4.out⟩
                    case measure => (simp [intOf]; try omega)
                · rw [show ((3 : Nat) : Int) = 3 from rfl]
                  obtain ⟨e, he⟩ : ∃ e, (bits BinOp.and IntKind.u8 (s / 8) 1 == 1) = e := ⟨_, rfl⟩
                  cases e
                  · go_wp2_with fail
                    go_roundw
                    case rel => exact ⟨4, m, aa, cc, l, by omega, rfl, rfl, hm'.out, by omega, hH.out⟩
                    case measure => (simp [intOf]; try omega)
                  · go_wp2_with (
                      at_builtin
                      refine sl_app (hH.out.alloc [.int .i64 3] 3) rfl _ _ _ rfl elemI _ rfl (.there (.here _ _)) [.int .i64 3] rfl rfl (rd_newK _ _ _) (by simp [Value.oneCell']) (by simp only [maxLen]; omega) (by omega) (fun h => by cases h) ?_
                      intro v' w3 H3 hnil
                      obtain ⟨a', c', rfl, -⟩ := OwnK.slice H3.head
                      have H4 := Lib.hid (H3.re (.step (.here _ _) (.drop (.same _))))
                      clear H3 hnil)
                    go_roundw
                    case rel => exact ⟨4, m + 1, a', c', l ++ [3], by omega, rfl, rfl, by simp [hm'.out], by omega, by rw [iv_append]; exact H4.out⟩
                    case measure => (simp [intOf]; try omega)
                · rw [show ((4 : Nat) : Int) = 4 from rfl]
                  obtain ⟨e, he⟩ : ∃ e, (bits BinOp.and IntKind.u8 (s / 16) 1 == 1) = e := ⟨_, rfl⟩
                  cases e
                  · go_wp2_with fail
                    go_roundw
                    case rel => exact ⟨5, m, aa, cc, l, by omega, rfl, rfl, hm'.out, by omega, hH.out⟩
                    case measure => (simp [intOf]; try omega)
                  · go_wp2_with (
                      at_builtin
                      refine sl_app (hH.out.alloc [.int .i64 4] 3) rfl _ _ _ rfl elemI _ rfl (.there (.here _ _)) [.int .i64 4] rfl rfl (rd_newK _ _ _) (by simp [Value.oneCell']) (by simp only [maxLen]; omega) (by omega) (fun h => by cases h) ?_
                      intro v' w3 H3 hnil
                      obtain ⟨a', c', rfl, -⟩ := OwnK.slice H3.head
                      have H4 := Lib.hid (H3.re (.step (.here _ _) (.drop (.same _))))
                      clear H3 hnil)
                    go_roundw
                    case rel => exact ⟨5, m + 1, a', c', l ++ [4], by omega, rfl, rfl, by simp [hm'.out], by omega, by rw [iv_append]; exact H4.out⟩
                    case measure => (simp [intOf]; try omega)
                · rw [show ((5 : Nat) : Int) = 5 from rfl]
                  obtain ⟨e, he⟩ : ∃ e, (bits BinOp.and IntKind.u8 (s / 32) 1 == 1) = e := ⟨_, rfl⟩
                  cases e
                  · go_wp2_with fail
                    go_roundw
                    case rel => exact ⟨6, m, aa, cc, l, by omega, rfl, rfl, hm'.out, by omega, hH.out⟩
                    case measure => (simp [intOf]; try omega)
                  · go_wp2_with (
                      at_builtin
                      refine sl_app (hH.out.alloc [.int .i64 5] 3) rfl _ _ _ rfl elemI _ rfl (.there (.here _ _)) [.int .i64 5] rfl rfl (rd_newK _ _ _) (by simp [Value.oneCell']) (by simp only [maxLen]; omega) (by omega) (fun h => by cases h) ?_
                      intro v' w3 H3 hnil
                      obtain ⟨a', c', rfl, -⟩ := OwnK.slice H3.head
                      have H4 := Lib.hid (H3.re (.step (.here _ _) (.drop (.same _))))
                      clear H3 hnil)
                    go_roundw
                    case rel => exact ⟨6, m + 1, a', c', l ++ [5], by omega, rfl, rfl, by simp [hm'.out], by omega, by rw [iv_append]; exact H4.out⟩
                    case measure => (simp [intOf]; try omega)
              · obtain rfl : j = 6 := by omega
                clear hj hj6 kS
                have hm' := Lib.hid hm
                clear hm
                have hya' := Lib.hid hya.out.ok
                have H1 := all_in H
                have hrl := Lib.hid (fun V (h : SL V (.own 3 1 (.slice aa m cc) m (iv l) :: (E8 ++ TT mb mc p vs va vc w))) => (OwnK.rdI (show OwnK V 0 3 1 (.slice aa m cc) m (iv l) from h.ownOf (.here _ _))).2.2)
                have hpa := ett_ptr (E := .own 3 1 (.slice aa m cc) m (iv l) :: E8) (all_tail H1) ha
                have hxy := hy'.out
                obtain ⟨len, hlen⟩ : ∃ len, vs.length = len := ⟨_, rfl⟩
                have hlen' := Lib.hid hlen
                have hL6 := Lib.hid (show l.length ≤ 6 by rw [hm'.out]; exact hmj)
                cases hcan : y.can l
                · have c := Lib.hid (allPropose_no H1 ha (hI'.out.one a ha).ok aa cc m l hm'.out (by have := hL6.out; omega) hrl.out (by rw [hxy]; exact hcan))
                  rw [hlen] at hvk hv200 ⊢
                  clear H H1 hxy hlen hcan
                  go_wp2_with fail
                  refine c.out.mono ?_
                  rintro r W5 ⟨rfl, H⟩
                  have H4 := all_in (H.alloc [.int .u32 0, .int .i64 0, .slice none 0 0] 34)
                  have hH := Lib.hid H4
                  clear H H4 c hpa
                  go_wp2_with fail
                  generalize W5.alloc (.cells #[.int .u32 0, .int .i64 0, .slice none 0 0] 34) = w6 at *
                  go_loopw [14] (fun i V => i = .int .i64 0 ∧ V = w6) (fun i _ => 0)
                  case atStart => exact ⟨rfl, rfl⟩
                  case round =>
                    obtain ⟨rfl, rfl⟩ := hrel
                    by_cases h0 : 0 < len
                    · go_wp2_with fail
                      go_meet
                      case rel => exact ⟨vs, va, vc, by rw [hlen'.out], by rw [hlen'.out]; omega, g, x, hI'.out, by rw [hy'.out]; exact Seen.rfl' y, all_re hH.out (.drop (.drop (.same _)))⟩
                    · have h01 : len ≤ 0 := by omega
                      clear h0
                      go_wp2_with fail
                      go_meet
                      case rel => exact ⟨vs, va, vc, by rw [hlen'.out], by rw [hlen'.out]; omega, g, x, hI'.out, by rw [hy'.out]; exact Seen.rfl' y, all_re hH.out (.drop (.drop (.same _)))⟩
                · obtain ⟨hnew, hvs2, hone2, hseen⟩ := hya.out.propose hI'.out.vsi hcan (hL6.out) none 0
                  have c := allPropose_yes H1 ha (hI'.out.one a ha).ok aa cc m l hm'.out (by have := hL6.out; omega) hrl.out (by rw [hxy]; exact hcan)
                  rw [hxy] at c
                  have c' := Lib.hid c
                  have hys := Lib.hid hya.out.self
                  have hnew' := Lib.hid hnew
                  have hcan' := Lib.hid hcan
                  obtain ⟨N2, hN2⟩ : ∃ N2, y.gN + 1 = N2 := ⟨_, rfl⟩
                  obtain ⟨s2, hs2⟩ : ∃ s2, y.self = s2 := ⟨_, rfl⟩
                  have hgen := Lib.hid (fun a2 c2 => hya.out.propose hI'.out.vsi hcan (hL6.out) a2 c2)
                  obtain ⟨y2, hy2⟩ : ∃ y2, y.adopt (y.gN + 1) y.self l = y2 := ⟨_, rfl⟩
                  rw [hy2] at c' hgen
                  rw [hN2, hs2] at c' hgen
                  rw [hN2, hs2] at hnew'
                  rw [hs2] at hys
                  rw [hlen] at hvk hv200 ⊢
                  clear H H1 hxy hlen hcan c hnew hvs2 hone2 hseen hN2 hs2 hy2
                  go_wp2_with fail
                  refine c'.out.mono ?_
                  rintro r W5 ⟨a2, c2, g', rfl, H⟩
                  have H4 := all_in (H.alloc [.int .u32 N2, .int .i64 s2, .slice a2 m c2] 34)
                  have hH := Lib.hid H4
                  clear H H4 c' hpa
                  go_wp2_with fail
                  generalize W5.alloc (.cells #[.int .u32 N2, .int .i64 s2, .slice a2 m c2] 34) = w6 at *
                  generalize W5.heap.size = b12 at *
                  go_loopw [14] (fun i V => ∃ j : Nat, j ≤ len ∧ i = .int .i64 j ∧ SL V (ALLN 6 p g' (upd x a y2) (.blk b12 [.int .u32 N2, .int .i64 s2, .slice a2 m c2] 34 :: .own 3 1 (.slice a2 m c2) m (iv l) :: .own 3 1 (.slice aa m cc) m (iv l) :: (E8 ++ TT mb mc p vs va vc w)))) (fun i _ => len - (intOf i).toNat)
                  case atStart => exact ⟨0, by omega, rfl, hH.out⟩
                  case round =>
                    clear hH
                    obtain ⟨j, hj, rfl, H⟩ := hrel
                    by_cases hjl : j < len
                    · have hjv : j < vs.length := by rw [hlen'.out]; exact hjl
                      obtain ⟨vb, rfl, d0, d1, -, -⟩ := ett_view (E := .blk b12 [.int .u32 N2, .int .i64 s2, .slice a2 m c2] 34 :: .own 3 1 (.slice a2 m c2) m (iv l) :: .own 3 1 (.slice aa m cc) m (iv l) :: E8) (all_tail H) hjv
                      have e0 := (all_tail H).cell (b := b12) (o := 0) (.here _ _) rfl
                      have e1 := (all_tail H).cell (b := b12) (o := 1) (.here _ _) rfl
                      have hnv := hnew'.out _ (List.getElem_mem hjv)
                      generalize vs[j]'hjv = vj at *
                      have hef : ∀ V, (binOp .eql 31 (.agg #[.int .u32 vj.N, .int .i64 vj.By]) (.agg #[.int .u32 N2, .int .i64 s2])).run Try.prog V = .ok (.bool false) V := fun V => by rw [eql_epoch, decide_eq_false hnv]
                      have hH := Lib.hid H
                      clear H hnv
                      go_wp2_with fail
                      go_quiet (fail)
                      go_wp2_with fail
                      go_roundw
                      case rel => exact ⟨j + 1, by omega, by go_num, hH.out.drewN _⟩
                      case measure => (simp [intOf]; try omega)
                    · obtain rfl : len = j := by omega
                      have e0 := (all_tail H).cell (b := b12) (o := 0) (.here _ _) rfl
                      have e1 := (all_tail H).cell (b := b12) (o := 1) (.here _ _) rfl
                      have e2 := (all_tail H).cell (b := b12) (o := 2) (.here _ _) rfl
                      have H5 := tt_front (A := .blk b12 [.int .u32 N2, .int .i64 s2, .slice a2 m c2] 34 :: .own 3 1 (.slice a2 m c2) m (iv l) :: .own 3 1 (.slice aa m cc) m (iv l) :: E8) H
                      rw [hlen'.out] at H5
                      have hH5 := Lib.hid H5
                      clear H H5
                      go_wp2_with (
                        at_builtin
                        refine sl_app (hH5.out.alloc [.int .u32 N2, .int .i64 s2, .slice a2 m c2] 34) rfl _ _ _ rfl elemV _ rfl (.there (.here _ _)) [.int .u32 N2, .int .i64 s2, .slice a2 m c2] rfl rfl (rd_newK _ _ _) (by simp [Value.oneCell']) (by simp only [maxLen]; omega) (by omega) (fun h => by cases h) ?_
                        intro v' w9 H9 hnil
                        obtain ⟨va', vc', rfl, -⟩ := OwnK.slice H9.head
                        have hH9 := Lib.hid H9
                        clear H9 hnil)
                      go_meet
                      case rel =>
                        obtain ⟨-, q1, q2, q3⟩ := hgen.out a2 c2
                        have H10 := hH9.out.re (.step (.here _ _) (.drop (.same _)))
                        have e : vcells ⟨N2, s2, l, a2, c2⟩ = [.int .u32 N2, .int .i64 s2, .slice a2 m c2] := by unfold vcells; rw [hm'.out]
                        have e3 : vint ⟨N2, s2, l, a2, c2⟩ = .own 3 1 (.slice a2 m c2) m (iv l) := by unfold vint; rw [hm'.out]
                        rw [← e, ← hlen'.out] at H10
                        have H11 : SL w9 (.own 34 3 (.slice va' (vs.length + 1) vc') (vs.length + 1) (vs.flatMap vcells ++ vcells ⟨N2, s2, l, a2, c2⟩) :: ALLN 6 p g' (upd x a y2) (vint ⟨N2, s2, l, a2, c2⟩ :: (E8 ++ (.own 35 1 (.slice (some ⟨mb, 0, none⟩) 6 mc) 6 (pv p 6) :: (vs.map vint ++ [.old w no]))))) := by
                          rw [e3]
                          exact H10.re (.step (.here _ _) (by
                            have hr : ∀ (A : List Pc) {B B' : List Pc}, Re B B' → Re (A ++ B) (A ++ B') := fun A => by
                              induction A with
                              | nil => exact fun h => h
                              | cons q A ih => exact fun h => .step (.here _ _) (ih h)
                            exact hr _ (.drop (.step (.here _ _) (.drop (.same _))))))
                        exact ⟨vs ++ [⟨N2, s2, l, a2, c2⟩], va', vc', by rw [List.length_append, hlen'.out]; rfl, by rw [List.length_append, hlen'.out]; simp; omega, g', _, hI'.out.grow q1 hys.out q2, by rw [upd_same]; exact q3, tt_grow H11⟩
          have hk1b : (kk == 1) = false := by simpa using hk1
          by_cases hk2 : kk = 2
          · obtain rfl : kk = 2 := hk2
            obtain ⟨len, hlen⟩ : ∃ len, vs.length = len := ⟨_, rfl⟩
            have hlen' := Lib.hid hlen
            rw [hlen] at hvk hv200 ⊢
            by_cases hL : 0 < len
            · obtain ⟨zn, i, hn1, hn2, hn3, hn4, hn5, hiL'⟩ := modN N len hL
              have hiL : i < vs.length := by rw [hlen]; exact hiL'
              clear hlen
              have hvv := Lib.hid (fun V (H : SL V (E8 ++ TT mb mc p vs va vc w)) => ett_view H hiL)
              have hvm := Lib.hid (show vs[i] ∈ vs from List.getElem_mem hiL)
              obtain ⟨v, hv⟩ : ∃ v, vs[i]'hiL = v := ⟨_, rfl⟩
              rw [hv] at hvv hvm
              obtain ⟨vb, rfl, -⟩ := hvv.out _ (all_tail hH4.out)
              have hvl := Lib.hid (hI'.out.vsi.len v hvm.out)
              have hcv := Lib.hid (fun V (H : SL V (E8 ++ TT mb mc p vs (some ⟨vb, 0, none⟩) vc w)) => (show V.cell? ⟨vb, i * 3, none⟩ = some (.int .u32 v.N) ∧ V.cell? ⟨vb, i * 3 + 1, none⟩ = some (.int .i64 v.By) ∧ V.cell? ⟨vb, i * 3 + 2, none⟩ = some (.slice v.a v.ms.length v.c) ∧ RdI V v.a v.ms from by
                obtain ⟨vb', e, h⟩ := hvv.out V H
                cases e
                exact h))
              clear hz1 hz2 hz3 hz4 hz5 hv hvv hiL
              have hH := hH4
              clear hH4
              go_wp2_with fail
              refine wp_region_held_drew (S := (fun W => W.cell? ⟨mb, a, none⟩ = some (.pointer (some ⟨p a, 0, none⟩)) ∧ W.cell? ⟨bo, oo + k * 5 + 4, none⟩ = some (.int .i64 N) ∧ W.cell? ⟨vb, i * 3, none⟩ = some (.int .u32 v.N) ∧ W.cell? ⟨vb, i * 3 + 1, none⟩ = some (.int .i64 v.By) ∧ W.cell? ⟨vb, i * 3 + 2, none⟩ = some (.slice v.a v.ms.length v.c))) (by kernel_rfl) ?_ (fun hHeld => ?_)
              · have h := hH.out.drew
                have hc := hcv.out _ (all_tail h)
                exact ⟨ett_ptr (all_tail h) ha, (hact.out _ (ett_kp (all_tail h))).2.2.2.2, hc.1, hc.2.1, hc.2.2.1⟩
              have H := hH.out.drew
              generalize World.drew w4 = w7 at *
              clear hH
              have hai : (a : Int) < 6 := by omega
              have hLne : ¬ len = 0 := by omega
              have ht : (zn + (len : Int)).tmod len = i := by rw [Int.tmod_eq_emod_of_nonneg (by omega)]; exact hn5
              have hw1 := IntWalk.i64_in (zn + len) ⟨by omega, by omega⟩
              clear hn2 hn3 hn4 hn5
              refine takeL (i := 0) rfl (by kernel_rfl) (by kernel_rfl) (by kernel_rfl) (fun _ _ _ _ h => h) hHeld ?_ (Or.inl ⟨by rfl, ?_⟩) ?_
              rotate_left
              · intro W hW
                (try dsimp only at hW)
                first | (go_simp; done) | (go_simp; with_reducible rfl)
              ((try simp only [Act.put]); (try simp only [List.setIfInBounds_toArray]); (try simp only [List.set_cons_succ]); (try simp only [List.set_cons_zero]))
              refine takeL (i := 1) rfl (by kernel_rfl) (by kernel_rfl) (by kernel_rfl) (fun _ _ _ _ h => h) hHeld ?_ (Or.inl ⟨by rfl, ?_⟩) ?_
              rotate_left
              · intro W hW
                (try dsimp only at hW)
                first | (go_simp; done) | (go_simp; with_reducible rfl)
              ((try simp only [Act.put]); (try simp only [List.setIfInBounds_toArray]); (try simp only [List.set_cons_succ]); (try simp only [List.set_cons_zero]))
              refine takeL (i := 2) rfl (by kernel_rfl) (by kernel_rfl) (by kernel_rfl) (fun _ _ _ _ h => h) hHeld ?_ (Or.inl ⟨by rfl, ?_⟩) ?_
              rotate_left
              · intro W hW
                (try dsimp only at hW)
                first | (go_simp; done) | (go_simp; with_reducible rfl)
              ((try simp only [Act.put]); (try simp only [List.setIfInBounds_toArray]); (try simp only [List.set_cons_succ]); (try simp only [List.set_cons_zero]))
              refine takeL (i := 3) rfl (by kernel_rfl) (by kernel_rfl) (by kernel_rfl) (fun _ _ _ _ h => h) hHeld ?_ (Or.inl ⟨by rfl, ?_⟩) ?_
              rotate_left
              · intro W hW
                (try dsimp only at hW)
                first | (go_simp; done) | (go_simp; with_reducible rfl)
              ((try simp only [Act.put]); (try simp only [List.setIfInBounds_toArray]); (try simp only [List.set_cons_succ]); (try simp only [List.set_cons_zero]))
              refine takeL (i := 4) rfl (by kernel_rfl) (by kernel_rfl) (by kernel_rfl) (fun _ _ _ _ h => h) hHeld ?_ (Or.inl ⟨by rfl, ?_⟩) ?_
              rotate_left
              · intro W hW
                (try dsimp only at hW)
                first | (go_simp; done) | (go_simp; with_reducible rfl)
              ((try simp only [Act.put]); (try simp only [List.setIfInBounds_toArray]); (try simp only [List.set_cons_succ]); (try simp only [List.set_cons_zero]))
              refine takeL (i := 5) rfl (by kernel_rfl) (by kernel_rfl) (by kernel_rfl) (fun _ _ _ _ h => h) hHeld ?_ (Or.inl ⟨by rfl, ?_⟩) ?_
              rotate_left
              · intro W hW
                (try dsimp only at hW)
                first | (go_simp; done) | (go_simp; with_reducible rfl)
              ((try simp only [Act.put]); (try simp only [List.setIfInBounds_toArray]); (try simp only [List.set_cons_succ]); (try simp only [List.set_cons_zero]))
              refine takeL (i := 6) rfl (by kernel_rfl) (by kernel_rfl) (by kernel_rfl) (fun _ _ _ _ h => h) hHeld ?_ (Or.inl ⟨by rfl, ?_⟩) ?_
              rotate_left
              · intro W hW
                (try dsimp only at hW)
                first | (go_simp; done) | (go_simp; with_reducible rfl)
              ((try simp only [Act.put]); (try simp only [List.setIfInBounds_toArray]); (try simp only [List.set_cons_succ]); (try simp only [List.set_cons_zero]))
              refine takeL (i := 7) rfl (by kernel_rfl) (by kernel_rfl) (by kernel_rfl) (fun _ _ _ _ h => h) hHeld ?_ (Or.inl ⟨by rfl, ?_⟩) ?_
              rotate_left
              · intro W hW
                (try dsimp only at hW)
                first | (go_simp; done) | (go_simp; with_reducible rfl)
              ((try simp only [Act.put]); (try simp only [List.setIfInBounds_toArray]); (try simp only [List.set_cons_succ]); (try simp only [List.set_cons_zero]))
              refine takeL (i := 8) rfl (by kernel_rfl) (by kernel_rfl) (by kernel_rfl) (fun _ _ _ _ h => h) hHeld ?_ (Or.inl ⟨by rfl, ?_⟩) ?_
              rotate_left
              · intro W hW
                (try dsimp only at hW)
                first | (go_simp; done) | (go_simp; with_reducible rfl)
              ((try simp only [Act.put]); (try simp only [List.setIfInBounds_toArray]); (try simp only [List.set_cons_succ]); (try simp only [List.set_cons_zero]))
              refine takeL (i := 9) rfl (by kernel_rfl) (by kernel_rfl) (by kernel_rfl) (fun _ _ _ _ h => h) hHeld ?_ (Or.inl ⟨by rfl, ?_⟩) ?_
              rotate_left
              · intro W hW
                (try dsimp only at hW)
                first | (go_simp; done) | (go_simp; with_reducible rfl)
              ((try simp only [Act.put]); (try simp only [List.setIfInBounds_toArray]); (try simp only [List.set_cons_succ]); (try simp only [List.set_cons_zero]))
              refine takeL (i := 10) rfl (by kernel_rfl) (by kernel_rfl) (by kernel_rfl) (fun _ _ _ _ h => h) hHeld ?_ (Or.inl ⟨by rfl, ?_⟩) ?_
              rotate_left
              · intro W hW
                (try dsimp only at hW)
                first | (go_simp; done) | (go_simp; with_reducible rfl)
              ((try simp only [Act.put]); (try simp only [List.setIfInBounds_toArray]); (try simp only [List.set_cons_succ]); (try simp only [List.set_cons_zero]))
              refine takeL (i := 11) rfl (by kernel_rfl) (by kernel_rfl) (by kernel_rfl) (fun _ _ _ _ h => h) hHeld ?_ (Or.inl ⟨by rfl, ?_⟩) ?_
              rotate_left
              · intro W hW
                (try dsimp only at hW)
                first | (go_simp; done) | (go_simp; with_reducible rfl)
              ((try simp only [Act.put]); (try simp only [List.setIfInBounds_toArray]); (try simp only [List.set_cons_succ]); (try simp only [List.set_cons_zero]))
              refine takeL (i := 12) rfl (by kernel_rfl) (by kernel_rfl) (by kernel_rfl) (fun _ _ _ _ h => h) hHeld ?_ (Or.inl ⟨by rfl, ?_⟩) ?_
              rotate_left
              · intro W hW
                (try dsimp only at hW)
                first | (go_simp; done) | (go_simp; with_reducible rfl)
              ((try simp only [Act.put]); (try simp only [List.setIfInBounds_toArray]); (try simp only [List.set_cons_succ]); (try simp only [List.set_cons_zero]))
              refine takeL (i := 13) rfl (by kernel_rfl) (by kernel_rfl) (by kernel_rfl) (fun _ _ _ _ h => h) hHeld ?_ (Or.inl ⟨by rfl, ?_⟩) ?_
              rotate_left
              · intro W hW
                (try dsimp only at hW)
                first | (go_simp; done) | (go_simp; with_reducible rfl)
              ((try simp only [Act.put]); (try simp only [List.setIfInBounds_toArray]); (try simp only [List.set_cons_succ]); (try simp only [List.set_cons_zero]))
              refine takeL (i := 14) rfl (by kernel_rfl) (by kernel_rfl) (by kernel_rfl) (fun _ _ _ _ h => h) hHeld ?_ (Or.inl ⟨by rfl, ?_⟩) ?_
              rotate_left
              · intro W hW
                (try dsimp only at hW)
                first | (go_simp; done) | (go_simp; with_reducible rfl)
              ((try simp only [Act.put]); (try simp only [List.setIfInBounds_toArray]); (try simp only [List.set_cons_succ]); (try simp only [List.set_cons_zero]))
              refine takeL (i := 15) rfl (by kernel_rfl) (by kernel_rfl) (by kernel_rfl) (fun _ _ _ _ h => h) hHeld ?_ (Or.inl ⟨by rfl, ?_⟩) ?_
              rotate_left
              · intro W hW
                (try dsimp only at hW)
                first | (go_simp; done) | (go_simp; with_reducible rfl)
              ((try simp only [Act.put]); (try simp only [List.setIfInBounds_toArray]); (try simp only [List.set_cons_succ]); (try simp only [List.set_cons_zero]))
              refine takeL (i := 16) rfl (by kernel_rfl) (by kernel_rfl) (by kernel_rfl) (fun _ _ _ _ h => h) hHeld ?_ (Or.inl ⟨by rfl, ?_⟩) ?_
              rotate_left
              · intro W hW
                (try dsimp only at hW)
                first | (go_simp; done) | (go_simp; with_reducible rfl)
              ((try simp only [Act.put]); (try simp only [List.setIfInBounds_toArray]); (try simp only [List.set_cons_succ]); (try simp only [List.set_cons_zero]))
              refine takeL (i := 17) rfl (by kernel_rfl) (by kernel_rfl) (by kernel_rfl) (fun _ _ _ _ h => h) hHeld ?_ (Or.inl ⟨by rfl, ?_⟩) ?_
              rotate_left
              · intro W hW
                (try dsimp only at hW)
                first | (go_simp; done) | (go_simp; with_reducible rfl)
              ((try simp only [Act.put]); (try simp only [List.setIfInBounds_toArray]); (try simp only [List.set_cons_succ]); (try simp only [List.set_cons_zero]))
              refine takeL (i := 18) rfl (by kernel_rfl) (by kernel_rfl) (by kernel_rfl) (fun _ _ _ _ h => h) hHeld ?_ (Or.inl ⟨by rfl, ?_⟩) ?_
              rotate_left
              · intro W hW
                (try dsimp only at hW)
                first | (go_simp; done) | (go_simp; with_reducible rfl)
              ((try simp only [Act.put]); (try simp only [List.setIfInBounds_toArray]); (try simp only [List.set_cons_succ]); (try simp only [List.set_cons_zero]))
              refine takeL (i := 19) rfl (by kernel_rfl) (by kernel_rfl) (by kernel_rfl) (fun _ _ _ _ h => h) hHeld ?_ (Or.inl ⟨by rfl, ?_⟩) ?_
              rotate_left
              · intro W hW
                (try dsimp only at hW)
                first | (go_simp; done) | (go_simp; with_reducible rfl)
              ((try simp only [Act.put]); (try simp only [List.setIfInBounds_toArray]); (try simp only [List.set_cons_succ]); (try simp only [List.set_cons_zero]))
              refine takeL (i := 20) rfl (by kernel_rfl) (by kernel_rfl) (by kernel_rfl) (fun _ _ _ _ h => h) hHeld ?_ (Or.inl ⟨by rfl, ?_⟩) ?_
              rotate_left
              · intro W hW
                (try dsimp only at hW)
                first | (go_simp; done) | (go_simp; with_reducible rfl)
              ((try simp only [Act.put]); (try simp only [List.setIfInBounds_toArray]); (try simp only [List.set_cons_succ]); (try simp only [List.set_cons_zero]))
              refine callL (i := 21) rfl (by kernel_rfl) (fun K hK => ?_)
              rw [if_pos (by rfl)]
              go_simp
              refine (allOffer H ha (hI'.out.one a ha).ok v.N v.By v.a v.c v.ms.length v.ms rfl (by have := hvl.out; omega) (fun V h => (hcv.out V h).2.2.2)).mono ?_
              rintro r w8 ⟨⟨vv, rfl⟩, g', H5⟩
              clear H hHeld
              have H := H5
              clear H5
              refine hK.out _ _ ?_ (fun hHeld => ?_)
              · have hc := hcv.out _ (all_tail H)
                exact ⟨ett_ptr (all_tail H) ha, (hact.out _ (ett_kp (all_tail H))).2.2.2.2, hc.1, hc.2.1, hc.2.2.1⟩
              clear hK K
              ((try simp only [Act.put]); (try simp only [List.setIfInBounds_toArray]); (try simp only [List.set_cons_succ]); (try simp only [List.set_cons_zero]))
              refine wpAnyH_done (by kernel_rfl) ?_ _
              
              have hH := Lib.hid H
              clear H hHeld
              go_wp2_with fail
              go_meet
              case rel =>
                obtain ⟨q1, q2⟩ := hya.out.offer hI'.out.vsi hvm.out
                rw [← hy'.out] at q1 q2
                exact ⟨vs, _, vc, by rw [hlen'.out], by rw [hlen'.out]; omega, g', _, hI'.out.upd q1, by rw [upd_same, ← hy'.out]; exact q2, hH.out⟩
            · have hLb : decide ((0 : Int) < (len : Int)) = false := decide_eq_false (by omega)
              have hLb2 : decide (0 < len) = false := decide_eq_false hL
              have hLb3 : len ≤ 0 := by omega
              clear hL hlen
              go_wp2_with fail
              go_meet
              case rel => exact ⟨vs, va, vc, by rw [hlen'.out], by rw [hlen'.out]; omega, g, x, hI'.out, by rw [hy'.out]; exact Seen.rfl' y, hH4.out⟩
          have hk2b : (kk == 2) = false := by simpa using hk2
          go_wp2_with fail
          go_meet
          case rel => exact ⟨vs, va, vc, rfl, by omega, g, x, hI'.out, by rw [hy'.out]; exact Seen.rfl' y, hH4.out⟩
      case rest =>
        clear hH4 k0 hI' hptr hy'
        obtain ⟨vs2, va2, vc2, rfl, hv2, g2, x2, hI2, hseen, H⟩ := hcut
        replace hI2 := Lib.hid hI2
        replace hseen := Lib.hid hseen
        have hpa := ett_ptr (all_tail H) ha
        have c := Lib.hid (allView H ha (hI2.out.one a ha).ok)
        clear H hz1 hz2 hz3 hz4 hz5
        go_wp2_with fail
        refine c.out.mono ?_
        rintro r W15 ⟨a15, c15, rfl, H⟩
        clear c hpa
        obtain ⟨z, hz⟩ : ∃ z, x2 a = z := ⟨_, rfl⟩
        have hz' := Lib.hid hz
        have hone := Lib.hid (show OneI a vs2 z from by rw [← hz]; exact hI2.out.one a ha)
        rw [hz] at H hseen ⊢
        clear hz
        obtain ⟨N15, hN15⟩ : ∃ N, z.N = N := ⟨_, rfl⟩
        obtain ⟨By15, hBy15⟩ : ∃ N, z.By = N := ⟨_, rfl⟩
        obtain ⟨m15, hm15'⟩ : ∃ N, z.ms.length = N := ⟨_, rfl⟩
        have hNz := Lib.hid (show z.N = N15 ∧ z.By = By15 from ⟨hN15, hBy15⟩)
        have hm15 := Lib.hid hm15'
        have hl15 := Lib.hid hone.out.ok.len
        have hm100 : m15 ≤ 100 := by rw [← hm15']; exact hone.out.ok.len
        rw [hN15, hBy15, hm15'] at ⊢
        rw [hm15'] at H
        clear hN15 hBy15 hm15'
        have H4 := all_in (H.alloc [.int .u32 N15, .int .i64 By15, .slice a15 m15 c15] 34)
        rw [← hE8'.out] at H4
        have hH0 := Lib.hid H4
        clear H H4
        go_wp2_with fail
        generalize W15.alloc (.cells #[.int .u32 N15, .int .i64 By15, .slice a15 m15 c15] 34) = w16 at *
        generalize W15.heap.size = b15 at *
        obtain ⟨T15, hT⟩ : ∃ T, ([.blk b15 [.int .u32 N15, .int .i64 By15, .slice a15 m15 c15] 34, .own 3 1 (.slice a15 m15 c15) m15 (iv z.ms), .blk b8 [.int .u32 y.N, .int .i64 y.By, .slice a8 y.ms.length c8] 34, .own 3 1 (.slice a8 y.ms.length c8) y.ms.length (iv y.ms)] ++ TT mb mc p vs2 va2 vc2 w : List Pc) = T := ⟨_, rfl⟩
        have hT15 := Lib.hid hT
        have hrd := Lib.hid (show ∀ V, SL V (ALLN 6 p g2 x2 T15) → V.cell? ⟨b15, 0, none⟩ = some (.int .u32 N15) ∧ V.cell? ⟨b15, 1, none⟩ = some (.int .i64 By15) ∧ V.cell? ⟨b15, 2, none⟩ = some (.slice a15 m15 c15) ∧ V.cell? ⟨b8, 0, none⟩ = some (.int .u32 y.N) ∧ V.cell? ⟨b8, 1, none⟩ = some (.int .i64 y.By) ∧ V.cell? ⟨b8, 2, none⟩ = some (.slice a8 y.ms.length c8) ∧ V.cell? ⟨mb, a, none⟩ = some (.pointer (some ⟨p a, 0, none⟩)) from fun V h => by
          rw [← hT] at h
          have h2 := all_tail h
          exact ⟨h2.cell (o := 0) (.here _ _) rfl, h2.cell (o := 1) (.here _ _) rfl, h2.cell (o := 2) (.here _ _) rfl, h2.cell (o := 0) (.there (.there (.here _ _))) rfl, h2.cell (o := 1) (.there (.there (.here _ _))) rfl, h2.cell (o := 2) (.there (.there (.here _ _))) rfl, ett_ptr h2 ha⟩)
        have hpt := Lib.hid (show ∀ V, SL V (ALLN 6 p g2 x2 T15) → ∀ i, i < 6 → V.cell? ⟨mb, i, none⟩ = some (.pointer (some ⟨p i, 0, none⟩)) from fun V h i hi => by
          rw [← hT] at h
          exact ett_ptr (all_tail h) hi)
        have hrz := Lib.hid (show ∀ V, SL V (ALLN 6 p g2 x2 T15) → RdI V a15 z.ms from fun V h => by
          rw [← hT] at h
          exact (OwnK.rdI (show OwnK _ 0 3 1 (.slice a15 m15 c15) m15 (iv z.ms) from (all_tail h).ownOf (.there (.here _ _)))).2.2)
        have hry := Lib.hid (show ∀ V, SL V (ALLN 6 p g2 x2 T15) → RdI V a8 y.ms from fun V h => by
          rw [← hT] at h
          exact (OwnK.rdI (show OwnK _ 0 3 1 (.slice a8 y.ms.length c8) y.ms.length (iv y.ms) from (all_tail h).ownOf (.there (.there (.there (.here _ _)))))).2.2)
        have hgr := Lib.hid (show ∀ V, SL V (ALLN 6 p g2 x2 T15) → Calls Try.prog 16 #[.pointer (some ⟨p a, 0, none⟩)] V fun r w' => r = .returned (.agg #[.int .u32 z.gN, .int .i64 z.gBy]) ∧ SL w' (ALLN 6 p g2 x2 T15) from fun V h => by
          have := allGreatest h ha (hI2.out.one a ha).ok
          rw [hz'.out] at this
          exact this)
        have hH := Lib.hid (show SL w16 (ALLN 6 p g2 x2 T15) from by rw [← hT]; exact hH0.out)
        clear hH0 hT
        obtain ⟨q1, hq1⟩ : ∃ q, cmpE N15 By15 y.N y.By = q := ⟨_, rfl⟩
        obtain ⟨q2, hq2⟩ : ∃ q, cmpE z.gN z.gBy N15 By15 = q := ⟨_, rfl⟩
        have hn1 : decide (q1 < 0) = false := decide_eq_false (by
          have := cmpE_nn.2 hseen.out.up
          rw [hNz.out.1, hNz.out.2, hq1] at this
          omega)
        have hn2 : decide (q2 < 0) = false := decide_eq_false (by
          have := cmpE_nn.2 hone.out.le
          rw [hNz.out.1, hNz.out.2, hq2] at this
          omega)
        have hc1 := Lib.hid hq1
        have hc2 := Lib.hid hq2
        have hmem := Lib.hid hone.out.mem
        clear hq1 hq2
        have hai : (a : Int) < 6 := by omega
        by_cases hsame : N15 = y.N ∧ By15 = y.By
        · have hmm := Lib.hid (show (N15 = y.N ∧ By15 = y.By) ∧ z.ms = y.ms from ⟨hsame, hseen.out.ms (hNz.out.1.trans hsame.1) (hNz.out.2.trans hsame.2)⟩)
          have hef : ∀ V, (binOp .eql 31 (.agg #[.int .u32 N15, .int .i64 By15]) (.agg #[.int .u32 y.N, .int .i64 y.By])).run Try.prog V = .ok (.bool true) V := fun V => by rw [eql_epoch, decide_eq_true hsame]
          clear hsame
          as_aux_lemma =>
            refine wp_region_held_drew (S := (fun W => W.cell? ⟨b15, 0, none⟩ = some (.int .u32 N15) ∧ W.cell? ⟨b15, 1, none⟩ = some (.int .i64 By15) ∧ W.cell? ⟨b15, 2, none⟩ = some (.slice a15 m15 c15) ∧ W.cell? ⟨b8, 0, none⟩ = some (.int .u32 y.N) ∧ W.cell? ⟨b8, 1, none⟩ = some (.int .i64 y.By) ∧ W.cell? ⟨b8, 2, none⟩ = some (.slice a8 y.ms.length c8) ∧ W.cell? ⟨mb, a, none⟩ = some (.pointer (some ⟨p a, 0, none⟩)))) (by kernel_rfl) ?_ (fun hHeld => ?_)
            · exact hrd.out _ hH.out.drew
            have H := hH.out.drew
            generalize World.drew w16 = w17 at *
            clear hH
            refine takeL (i := 0) rfl (by kernel_rfl) (by kernel_rfl) (by kernel_rfl) (fun _ _ _ _ h => h) hHeld ?_ (Or.inl ⟨by rfl, ?_⟩) ?_
            rotate_left
            · intro W hW
              (try dsimp only at hW)
              first | (go_simp; done) | (go_simp; with_reducible rfl)
            ((try simp only [Act.put]); (try simp only [List.setIfInBounds_toArray]); (try simp only [List.set_cons_succ]); (try simp only [List.set_cons_zero]))
            refine takeL (i := 1) rfl (by kernel_rfl) (by kernel_rfl) (by kernel_rfl) (fun _ _ _ _ h => h) hHeld ?_ (Or.inl ⟨by rfl, ?_⟩) ?_
            rotate_left
            · intro W hW
              (try dsimp only at hW)
              first | (go_simp; done) | (go_simp; with_reducible rfl)
            ((try simp only [Act.put]); (try simp only [List.setIfInBounds_toArray]); (try simp only [List.set_cons_succ]); (try simp only [List.set_cons_zero]))
            refine takeL (i := 2) rfl (by kernel_rfl) (by kernel_rfl) (by kernel_rfl) (fun _ _ _ _ h => h) hHeld ?_ (Or.inl ⟨by rfl, ?_⟩) ?_
            rotate_left
            · intro W hW
              (try dsimp only at hW)
              first | (go_simp; done) | (go_simp; with_reducible rfl)
            ((try simp only [Act.put]); (try simp only [List.setIfInBounds_toArray]); (try simp only [List.set_cons_succ]); (try simp only [List.set_cons_zero]))
            refine takeL (i := 3) rfl (by kernel_rfl) (by kernel_rfl) (by kernel_rfl) (fun _ _ _ _ h => h) hHeld ?_ (Or.inl ⟨by rfl, ?_⟩) ?_
            rotate_left
            · intro W hW
              (try dsimp only at hW)
              first | (go_simp; done) | (go_simp; with_reducible rfl)
            ((try simp only [Act.put]); (try simp only [List.setIfInBounds_toArray]); (try simp only [List.set_cons_succ]); (try simp only [List.set_cons_zero]))
            refine callL (i := 4) rfl (by kernel_rfl) (fun K hK => ?_)
            rw [if_pos (by rfl)]
            go_simp
            refine (cmpSS_c H hc1.out).mono ?_
            rintro r w18 ⟨rfl, H5⟩
            have H' := H5
            clear H hHeld
            clear H5
            have H := H'
            clear H'
            refine hK.out _ _ ?_ (fun hHeld => ?_)
            · exact hrd.out _ H
            clear hK K
            ((try simp only [Act.put]); (try simp only [List.setIfInBounds_toArray]); (try simp only [List.set_cons_succ]); (try simp only [List.set_cons_zero]))
            refine takeL (i := 5) rfl (by kernel_rfl) (by kernel_rfl) (by kernel_rfl) (fun _ _ _ _ h => h) hHeld ?_ (Or.inl ⟨by rfl, ?_⟩) ?_
            rotate_left
            · intro W hW
              (try dsimp only at hW)
              first | (go_simp; done) | (go_simp; with_reducible rfl)
            ((try simp only [Act.put]); (try simp only [List.setIfInBounds_toArray]); (try simp only [List.set_cons_succ]); (try simp only [List.set_cons_zero]))
            refine takeL (i := 6) rfl (by kernel_rfl) (by kernel_rfl) (by kernel_rfl) (fun _ _ _ _ h => h) hHeld ?_ (Or.inl ⟨by rfl, ?_⟩) ?_
            rotate_left
            · intro W hW
              (try dsimp only at hW)
              first | (go_simp; done) | (go_simp; with_reducible rfl)
            ((try simp only [Act.put]); (try simp only [List.setIfInBounds_toArray]); (try simp only [List.set_cons_succ]); (try simp only [List.set_cons_zero]))
            refine takeL (i := 7) rfl (by kernel_rfl) (by kernel_rfl) (by kernel_rfl) (fun _ _ _ _ h => h) hHeld ?_ (Or.inl ⟨by rfl, ?_⟩) ?_
            rotate_left
            · intro W hW
              (try dsimp only at hW)
              first | (go_simp; done) | (go_simp; with_reducible rfl)
            ((try simp only [Act.put]); (try simp only [List.setIfInBounds_toArray]); (try simp only [List.set_cons_succ]); (try simp only [List.set_cons_zero]))
            refine takeL (i := 8) rfl (by kernel_rfl) (by kernel_rfl) (by kernel_rfl) (fun _ _ _ _ h => h) hHeld ?_ (Or.inl ⟨by rfl, ?_⟩) ?_
            rotate_left
            · intro W hW
              (try dsimp only at hW)
              first | (go_simp; done) | (go_simp; with_reducible rfl)
            ((try simp only [Act.put]); (try simp only [List.setIfInBounds_toArray]); (try simp only [List.set_cons_succ]); (try simp only [List.set_cons_zero]))
            refine takeL (i := 9) rfl (by kernel_rfl) (by kernel_rfl) (by kernel_rfl) (fun _ _ _ _ h => h) hHeld ?_ (Or.inl ⟨by rfl, ?_⟩) ?_
            rotate_left
            · intro W hW
              (try dsimp only at hW)
              first | (go_simp; done) | (go_simp; with_reducible rfl)
            ((try simp only [Act.put]); (try simp only [List.setIfInBounds_toArray]); (try simp only [List.set_cons_succ]); (try simp only [List.set_cons_zero]))
            refine takeL (i := 10) rfl (by kernel_rfl) (by kernel_rfl) (by kernel_rfl) (fun _ _ _ _ h => h) hHeld ?_ (Or.inl ⟨by rfl, ?_⟩) ?_
            rotate_left
            · intro W hW
              (try dsimp only at hW)
              first | (go_simp; done) | (go_simp; with_reducible rfl)
            ((try simp only [Act.put]); (try simp only [List.setIfInBounds_toArray]); (try simp only [List.set_cons_succ]); (try simp only [List.set_cons_zero]))
            refine takeL (i := 11) rfl (by kernel_rfl) (by kernel_rfl) (by kernel_rfl) (fun _ _ _ _ h => h) hHeld ?_ (Or.inl ⟨by rfl, ?_⟩) ?_
            rotate_left
            · intro W hW
              (try dsimp only at hW)
              first | (go_simp; done) | (go_simp; with_reducible rfl)
            ((try simp only [Act.put]); (try simp only [List.setIfInBounds_toArray]); (try simp only [List.set_cons_succ]); (try simp only [List.set_cons_zero]))
            refine takeL (i := 12) rfl (by kernel_rfl) (by kernel_rfl) (by kernel_rfl) (fun _ _ _ _ h => h) hHeld ?_ (Or.inl ⟨by rfl, ?_⟩) ?_
            rotate_left
            · intro W hW
              (try dsimp only at hW)
              first | (go_simp; done) | (go_simp; with_reducible rfl)
            ((try simp only [Act.put]); (try simp only [List.setIfInBounds_toArray]); (try simp only [List.set_cons_succ]); (try simp only [List.set_cons_zero]))
            refine takeL (i := 13) rfl (by kernel_rfl) (by kernel_rfl) (by kernel_rfl) (fun _ _ _ _ h => h) hHeld ?_ (Or.inl ⟨by rfl, ?_⟩) ?_
            rotate_left
            · intro W hW
              (try dsimp only at hW)
              first | (go_simp; done) | (go_simp; with_reducible rfl)
            ((try simp only [Act.put]); (try simp only [List.setIfInBounds_toArray]); (try simp only [List.set_cons_succ]); (try simp only [List.set_cons_zero]))
            refine takeL (i := 14) rfl (by kernel_rfl) (by kernel_rfl) (by kernel_rfl) (fun _ _ _ _ h => h) hHeld ?_ (Or.inl ⟨by rfl, ?_⟩) ?_
            rotate_left
            · intro W hW
              (try dsimp only at hW)
              first | (go_simp; done) | (go_simp; with_reducible rfl)
            ((try simp only [Act.put]); (try simp only [List.setIfInBounds_toArray]); (try simp only [List.set_cons_succ]); (try simp only [List.set_cons_zero]))
            refine callL (i := 15) rfl (by kernel_rfl) (fun K hK => ?_)
            rw [if_pos (by rfl)]
            go_simp
            refine (sameQ H hmm.out.1 hm15.out rfl hmm.out.2 (by have := hl15.out; omega) (hrz.out _ H) (hry.out _ H)).mono ?_
            rintro r w19 ⟨rfl, H5⟩
            have H' := H5
            clear H hHeld
            clear H5
            have H := H'
            clear H'
            refine hK.out _ _ ?_ (fun hHeld => ?_)
            · exact hrd.out _ H
            clear hK K
            ((try simp only [Act.put]); (try simp only [List.setIfInBounds_toArray]); (try simp only [List.set_cons_succ]); (try simp only [List.set_cons_zero]))
            refine takeL (i := 16) rfl (by kernel_rfl) (by kernel_rfl) (by kernel_rfl) (fun _ _ _ _ h => h) hHeld ?_ (Or.inl ⟨by rfl, ?_⟩) ?_
            rotate_left
            · intro W hW
              (try dsimp only at hW)
              first | (go_simp; done) | (go_simp; with_reducible rfl)
            ((try simp only [Act.put]); (try simp only [List.setIfInBounds_toArray]); (try simp only [List.set_cons_succ]); (try simp only [List.set_cons_zero]))
            refine takeL (i := 17) rfl (by kernel_rfl) (by kernel_rfl) (by kernel_rfl) (fun _ _ _ _ h => h) hHeld ?_ (Or.inl ⟨by rfl, ?_⟩) ?_
            rotate_left
            · intro W hW
              (try dsimp only at hW)
              first | (go_simp; done) | (go_simp; with_reducible rfl)
            ((try simp only [Act.put]); (try simp only [List.setIfInBounds_toArray]); (try simp only [List.set_cons_succ]); (try simp only [List.set_cons_zero]))
            refine takeL (i := 18) rfl (by kernel_rfl) (by kernel_rfl) (by kernel_rfl) (fun _ _ _ _ h => h) hHeld ?_ (Or.inl ⟨by rfl, ?_⟩) ?_
            rotate_left
            · intro W hW
              (try dsimp only at hW)
              first | (go_simp; done) | (go_simp; with_reducible rfl)
            ((try simp only [Act.put]); (try simp only [List.setIfInBounds_toArray]); (try simp only [List.set_cons_succ]); (try simp only [List.set_cons_zero]))
            refine takeL (i := 19) rfl (by kernel_rfl) (by kernel_rfl) (by kernel_rfl) (fun _ _ _ _ h => h) hHeld ?_ (Or.inl ⟨by rfl, ?_⟩) ?_
            rotate_left
            · intro W hW
              (try dsimp only at hW)
              first | (go_simp; done) | (go_simp; with_reducible rfl)
            ((try simp only [Act.put]); (try simp only [List.setIfInBounds_toArray]); (try simp only [List.set_cons_succ]); (try simp only [List.set_cons_zero]))
            refine takeL (i := 20) rfl (by kernel_rfl) (by kernel_rfl) (by kernel_rfl) (fun _ _ _ _ h => h) hHeld ?_ (Or.inl ⟨by rfl, ?_⟩) ?_
            rotate_left
            · intro W hW
              (try dsimp only at hW)
              first | (go_simp; done) | (go_simp; with_reducible rfl)
            ((try simp only [Act.put]); (try simp only [List.setIfInBounds_toArray]); (try simp only [List.set_cons_succ]); (try simp only [List.set_cons_zero]))
            refine takeL (i := 21) rfl (by kernel_rfl) (by kernel_rfl) (by kernel_rfl) (fun _ _ _ _ h => h) hHeld ?_ (Or.inl ⟨by rfl, ?_⟩) ?_
            rotate_left
            · intro W hW
              (try dsimp only at hW)
              first | (go_simp; done) | (go_simp; with_reducible rfl)
            ((try simp only [Act.put]); (try simp only [List.setIfInBounds_toArray]); (try simp only [List.set_cons_succ]); (try simp only [List.set_cons_zero]))
            refine takeL (i := 22) rfl (by kernel_rfl) (by kernel_rfl) (by kernel_rfl) (fun _ _ _ _ h => h) hHeld ?_ (Or.inl ⟨by rfl, ?_⟩) ?_
            rotate_left
            · intro W hW
              (try dsimp only at hW)
              first | (go_simp; done) | (go_simp; with_reducible rfl)
            ((try simp only [Act.put]); (try simp only [List.setIfInBounds_toArray]); (try simp only [List.set_cons_succ]); (try simp only [List.set_cons_zero]))
            refine takeL (i := 23) rfl (by kernel_rfl) (by kernel_rfl) (by kernel_rfl) (fun _ _ _ _ h => h) hHeld ?_ (Or.inl ⟨by rfl, ?_⟩) ?_
            rotate_left
            · intro W hW
              (try dsimp only at hW)
              first | (go_simp; done) | (go_simp; with_reducible rfl)
            ((try simp only [Act.put]); (try simp only [List.setIfInBounds_toArray]); (try simp only [List.set_cons_succ]); (try simp only [List.set_cons_zero]))
            refine takeL (i := 25) rfl (by kernel_rfl) (by kernel_rfl) (by kernel_rfl) (fun _ _ _ _ h => h) hHeld ?_ (Or.inl ⟨by rfl, ?_⟩) ?_
            rotate_left
            · intro W hW
              (try dsimp only at hW)
              first | (go_simp; done) | (go_simp; with_reducible rfl)
            ((try simp only [Act.put]); (try simp only [List.setIfInBounds_toArray]); (try simp only [List.set_cons_succ]); (try simp only [List.set_cons_zero]))
            refine takeL (i := 26) rfl (by kernel_rfl) (by kernel_rfl) (by kernel_rfl) (fun _ _ _ _ h => h) hHeld ?_ (Or.inl ⟨by rfl, ?_⟩) ?_
            rotate_left
            · intro W hW
              (try dsimp only at hW)
              first | (go_simp; done) | (go_simp; with_reducible rfl)
            ((try simp only [Act.put]); (try simp only [List.setIfInBounds_toArray]); (try simp only [List.set_cons_succ]); (try simp only [List.set_cons_zero]))
            refine callL (i := 24) rfl (by kernel_rfl) (fun K hK => ?_)
            rw [if_pos (by rfl)]
            go_simp
            refine (hgr.out _ H).mono ?_
            rintro r w20 ⟨rfl, H5⟩
            have H' := H5
            clear H hHeld
            clear H5
            have H := H'
            clear H'
            refine hK.out _ _ ?_ (fun hHeld => ?_)
            · exact hrd.out _ H
            clear hK K
            ((try simp only [Act.put]); (try simp only [List.setIfInBounds_toArray]); (try simp only [List.set_cons_succ]); (try simp only [List.set_cons_zero]))
            refine callL (i := 27) rfl (by kernel_rfl) (fun K hK => ?_)
            rw [if_pos (by rfl)]
            go_simp
            refine (cmpSS_c H hc2.out).mono ?_
            rintro r w21 ⟨rfl, H5⟩
            have H' := H5
            clear H hHeld
            clear H5
            have H := H'
            clear H'
            refine hK.out _ _ ?_ (fun hHeld => ?_)
            · exact hrd.out _ H
            clear hK K
            ((try simp only [Act.put]); (try simp only [List.setIfInBounds_toArray]); (try simp only [List.set_cons_succ]); (try simp only [List.set_cons_zero]))
            refine takeL (i := 28) rfl (by kernel_rfl) (by kernel_rfl) (by kernel_rfl) (fun _ _ _ _ h => h) hHeld ?_ (Or.inl ⟨by rfl, ?_⟩) ?_
            rotate_left
            · intro W hW
              (try dsimp only at hW)
              first | (go_simp; done) | (go_simp; with_reducible rfl)
            ((try simp only [Act.put]); (try simp only [List.setIfInBounds_toArray]); (try simp only [List.set_cons_succ]); (try simp only [List.set_cons_zero]))
            refine takeL (i := 29) rfl (by kernel_rfl) (by kernel_rfl) (by kernel_rfl) (fun _ _ _ _ h => h) hHeld ?_ (Or.inl ⟨by rfl, ?_⟩) ?_
            rotate_left
            · intro W hW
              (try dsimp only at hW)
              first | (go_simp; done) | (go_simp; with_reducible rfl)
            ((try simp only [Act.put]); (try simp only [List.setIfInBounds_toArray]); (try simp only [List.set_cons_succ]); (try simp only [List.set_cons_zero]))
            refine wpAnyH_done (by kernel_rfl) ?_ _
            
            clear hHeld
            have d0 := (hrd.out _ H).1
            have d1 := (hrd.out _ H).2.1
            have d2 := (hrd.out _ H).2.2.1
            have hrdz := Lib.hid (hrz.out _ H)
            have hHT := Lib.hid H
            clear H hef hn1 hn2 hai
            go_wp2_with fail
            go_loop [193, 16] (fun i t => ∃ j : Nat, j ≤ m15 ∧ i = .int .i64 j ∧ t = .bool (decide ((a : Int) ∈ z.ms.take j))) (fun i _ => m15 - (intOf i).toNat)
            case atStart => exact ⟨0, by omega, rfl, by simp⟩
            case round =>
              obtain ⟨j, hj, rfl, rfl⟩ := hrel
              by_cases hjm : j < m15
              · have hjl : j < z.ms.length := by rw [hm15.out]; exact hjm
                obtain ⟨lb, lo, rfl, hcl⟩ := hrdz.out.cell hjl
                have htk := List.take_succ_eq_append_getElem hjl
                generalize z.ms[j]'hjl = q at *
                obtain ⟨e1, he1⟩ : ∃ e, decide ((a : Int) ∈ z.ms.take j) = e := ⟨_, rfl⟩
                obtain ⟨e2, he2⟩ : ∃ e, (q == (a : Int)) = e := ⟨_, rfl⟩
                have hnx := Lib.hid (show decide ((a : Int) ∈ z.ms.take (j + 1)) = (e1 || e2) from by rw [htk, ← he1, ← he2]; exact mem_snoc _ _ _)
                rw [he1]
                clear he1 htk
                cases e1
                · go_wp2_with fail
                  go_round
                  case rel => exact ⟨j + 1, by omega, by go_num, by rw [hnx.out]; simp⟩
                  case measure => (simp [intOf]; try omega)
                · go_wp2_with fail
                  go_round
                  case rel => exact ⟨j + 1, by omega, by go_num, by rw [hnx.out]; simp⟩
                  case measure => (simp [intOf]; try omega)
              · obtain rfl : m15 = j := by omega
                have hin : decide ((a : Int) ∈ z.ms.take m15) = true := by rw [← hm15.out, List.take_length]; exact decide_eq_true hmem.out
                rw [hin]
                clear hin
                go_wp2_with fail
                go_loopw [209] (fun i V => ∃ j : Nat, j ≤ 6 ∧ i = .int .i64 j ∧ SL V (ALLN 6 p g2 x2 T15)) (fun i _ => 6 - (intOf i).toNat)
                case atStart => exact ⟨0, by omega, rfl, hHT.out⟩
                case round =>
                  clear d0 d1 d2
                  obtain ⟨j, hj, rfl, H⟩ := hrel
                  obtain ⟨d0, d1, d2, -, -, -, -⟩ := hrd.out _ H
                  by_cases hj6 : j < 6
                  · have hpj := hpt.out _ H j hj6
                    have hsm := Lib.hid (fun h1 h2 => (hI2.out.one j hj6).same (hI2.out.one a ha) hI2.out.vsi h1 h2)
                    rw [hz'.out] at hsm
                    have hlj := Lib.hid (hI2.out.one j hj6).ok.len
                    have c := Lib.hid (allView H hj6 (hI2.out.one j hj6).ok)
                    clear H
                    go_wp2_with fail
                    refine c.out.mono ?_
                    rintro r W25 ⟨a19, c19, rfl, H⟩
                    generalize x2 j = u at *
                    clear c hpj d0 d1 d2
                    have H4 := all_in (H.alloc [.int .u32 u.N, .int .i64 u.By, .slice a19 u.ms.length c19] 34)
                    obtain ⟨d0, d1, d2, -, -, -, -⟩ := hrd.out _ (all_re H4 (.drop (.drop (.same _))))
                    by_cases h19 : u.N = z.N ∧ u.By = z.By
                    · have hmsu := Lib.hid (hsm.out h19.1 h19.2)
                      have hq := Lib.hid h19
                      have hef : ∀ V, (binOp .eql 31 (.agg #[.int .u32 u.N, .int .i64 u.By]) (.agg #[.int .u32 N15, .int .i64 By15])).run Try.prog V = .ok (.bool true) V := fun V => by rw [eql_epoch, ← hNz.out.1, ← hNz.out.2, decide_eq_true h19]
                      have c := Lib.hid (sameQ (ca := c19) (cb := c15) H4 (show u.N = N15 ∧ u.By = By15 from by rw [← hNz.out.1, ← hNz.out.2]; exact h19) rfl hm15.out hmsu.out (by have := hlj.out; omega) (OwnK.rdI (show OwnK _ 0 3 1 (.slice a19 u.ms.length c19) u.ms.length (iv u.ms) from (all_tail H4).ownOf (.there (.here _ _)))).2.2 (hrz.out _ (all_re H4 (.drop (.drop (.same _))))))
                      clear H H4 h19
                      go_wp2_with fail
                      refine c.out.mono ?_
                      rintro r W26 ⟨rfl, H⟩
                      have hH := Lib.hid H
                      clear H c d0 d1 d2 hef
                      go_wp2_with fail
                      go_roundw
                      case rel => exact ⟨j + 1, by omega, by go_num, all_re hH.out (.drop (.drop (.same _)))⟩
                      case measure => (simp [intOf]; try omega)
                    · have hef : ∀ V, (binOp .eql 31 (.agg #[.int .u32 u.N, .int .i64 u.By]) (.agg #[.int .u32 N15, .int .i64 By15])).run Try.prog V = .ok (.bool false) V := fun V => by rw [eql_epoch, ← hNz.out.1, ← hNz.out.2, decide_eq_false h19]
                      have hH := Lib.hid H4
                      clear H H4 h19
                      go_wp2_with fail
                      go_roundw
                      case rel => exact ⟨j + 1, by omega, by go_num, all_re hH.out (.drop (.drop (.same _)))⟩
                      case measure => (simp [intOf]; try omega)
                  · obtain rfl : j = 6 := by omega
                    have hfin := Lib.hid (show SL _ (ALLN 6 p g2 x2 (TT mb mc p vs2 va2 vc2 w)) from all_re (by rw [← hT15.out] at H; exact H) (.drop (.drop (.drop (.drop (.same _))))))
                    clear H d0 d1 d2
                    go_wp2_with fail
                    go_roundw
                    case rel => exact ⟨k + 1, vs2, va2, vc2, by omega, by go_num, rfl, hv2, by omega, g2, x2, hI2.out, hfin.out⟩
                    case measure => (simp [intOf]; try omega)
        · have hef : ∀ V, (binOp .eql 31 (.agg #[.int .u32 N15, .int .i64 By15]) (.agg #[.int .u32 y.N, .int .i64 y.By])).run Try.prog V = .ok (.bool false) V := fun V => by rw [eql_epoch, decide_eq_false hsame]
          clear hsame
          as_aux_lemma =>
            refine wp_region_held_drew (S := (fun W => W.cell? ⟨b15, 0, none⟩ = some (.int .u32 N15) ∧ W.cell? ⟨b15, 1, none⟩ = some (.int .i64 By15) ∧ W.cell? ⟨b15, 2, none⟩ = some (.slice a15 m15 c15) ∧ W.cell? ⟨b8, 0, none⟩ = some (.int .u32 y.N) ∧ W.cell? ⟨b8, 1, none⟩ = some (.int .i64 y.By) ∧ W.cell? ⟨b8, 2, none⟩ = some (.slice a8 y.ms.length c8) ∧ W.cell? ⟨mb, a, none⟩ = some (.pointer (some ⟨p a, 0, none⟩)))) (by kernel_rfl) ?_ (fun hHeld => ?_)
            · exact hrd.out _ hH.out.drew
            have H := hH.out.drew
            generalize World.drew w16 = w17 at *
            clear hH
            refine takeL (i := 0) rfl (by kernel_rfl) (by kernel_rfl) (by kernel_rfl) (fun _ _ _ _ h => h) hHeld ?_ (Or.inl ⟨by rfl, ?_⟩) ?_
            rotate_left
            · intro W hW
              (try dsimp only at hW)
              first | (go_simp; done) | (go_simp; with_reducible rfl)
            ((try simp only [Act.put]); (try simp only [List.setIfInBounds_toArray]); (try simp only [List.set_cons_succ]); (try simp only [List.set_cons_zero]))
            refine takeL (i := 1) rfl (by kernel_rfl) (by kernel_rfl) (by kernel_rfl) (fun _ _ _ _ h => h) hHeld ?_ (Or.inl ⟨by rfl, ?_⟩) ?_
            rotate_left
            · intro W hW
              (try dsimp only at hW)
              first | (go_simp; done) | (go_simp; with_reducible rfl)
            ((try simp only [Act.put]); (try simp only [List.setIfInBounds_toArray]); (try simp only [List.set_cons_succ]); (try simp only [List.set_cons_zero]))
            refine takeL (i := 2) rfl (by kernel_rfl) (by kernel_rfl) (by kernel_rfl) (fun _ _ _ _ h => h) hHeld ?_ (Or.inl ⟨by rfl, ?_⟩) ?_
            rotate_left
            · intro W hW
              (try dsimp only at hW)
              first | (go_simp; done) | (go_simp; with_reducible rfl)
            ((try simp only [Act.put]); (try simp only [List.setIfInBounds_toArray]); (try simp only [List.set_cons_succ]); (try simp only [List.set_cons_zero]))
            refine takeL (i := 3) rfl (by kernel_rfl) (by kernel_rfl) (by kernel_rfl) (fun _ _ _ _ h => h) hHeld ?_ (Or.inl ⟨by rfl, ?_⟩) ?_
            rotate_left
            · intro W hW
              (try dsimp only at hW)
              first | (go_simp; done) | (go_simp; with_reducible rfl)
            ((try simp only [Act.put]); (try simp only [List.setIfInBounds_toArray]); (try simp only [List.set_cons_succ]); (try simp only [List.set_cons_zero]))
            refine callL (i := 4) rfl (by kernel_rfl) (fun K hK => ?_)
            rw [if_pos (by rfl)]
            go_simp
            refine (cmpSS_c H hc1.out).mono ?_
            rintro r w18 ⟨rfl, H5⟩
            have H' := H5
            clear H hHeld
            clear H5
            have H := H'
            clear H'
            refine hK.out _ _ ?_ (fun hHeld => ?_)
            · exact hrd.out _ H
            clear hK K
            ((try simp only [Act.put]); (try simp only [List.setIfInBounds_toArray]); (try simp only [List.set_cons_succ]); (try simp only [List.set_cons_zero]))
            refine takeL (i := 5) rfl (by kernel_rfl) (by kernel_rfl) (by kernel_rfl) (fun _ _ _ _ h => h) hHeld ?_ (Or.inl ⟨by rfl, ?_⟩) ?_
            rotate_left
            · intro W hW
              (try dsimp only at hW)
              first | (go_simp; done) | (go_simp; with_reducible rfl)
            ((try simp only [Act.put]); (try simp only [List.setIfInBounds_toArray]); (try simp only [List.set_cons_succ]); (try simp only [List.set_cons_zero]))
            refine takeL (i := 6) rfl (by kernel_rfl) (by kernel_rfl) (by kernel_rfl) (fun _ _ _ _ h => h) hHeld ?_ (Or.inl ⟨by rfl, ?_⟩) ?_
            rotate_left
            · intro W hW
              (try dsimp only at hW)
              first | (go_simp; done) | (go_simp; with_reducible rfl)
            ((try simp only [Act.put]); (try simp only [List.setIfInBounds_toArray]); (try simp only [List.set_cons_succ]); (try simp only [List.set_cons_zero]))
            refine takeL (i := 7) rfl (by kernel_rfl) (by kernel_rfl) (by kernel_rfl) (fun _ _ _ _ h => h) hHeld ?_ (Or.inl ⟨by rfl, ?_⟩) ?_
            rotate_left
            · intro W hW
              (try dsimp only at hW)
              first | (go_simp; done) | (go_simp; with_reducible rfl)
            ((try simp only [Act.put]); (try simp only [List.setIfInBounds_toArray]); (try simp only [List.set_cons_succ]); (try simp only [List.set_cons_zero]))
            refine takeL (i := 8) rfl (by kernel_rfl) (by kernel_rfl) (by kernel_rfl) (fun _ _ _ _ h => h) hHeld ?_ (Or.inl ⟨by rfl, ?_⟩) ?_
            rotate_left
            · intro W hW
              (try dsimp only at hW)
              first | (go_simp; done) | (go_simp; with_reducible rfl)
            ((try simp only [Act.put]); (try simp only [List.setIfInBounds_toArray]); (try simp only [List.set_cons_succ]); (try simp only [List.set_cons_zero]))
            refine takeL (i := 9) rfl (by kernel_rfl) (by kernel_rfl) (by kernel_rfl) (fun _ _ _ _ h => h) hHeld ?_ (Or.inl ⟨by rfl, ?_⟩) ?_
            rotate_left
            · intro W hW
              (try dsimp only at hW)
              first | (go_simp; done) | (go_simp; with_reducible rfl)
            ((try simp only [Act.put]); (try simp only [List.setIfInBounds_toArray]); (try simp only [List.set_cons_succ]); (try simp only [List.set_cons_zero]))
            refine takeL (i := 10) rfl (by kernel_rfl) (by kernel_rfl) (by kernel_rfl) (fun _ _ _ _ h => h) hHeld ?_ (Or.inl ⟨by rfl, ?_⟩) ?_
            rotate_left
            · intro W hW
              (try dsimp only at hW)
              first | (go_simp; done) | (go_simp; with_reducible rfl)
            ((try simp only [Act.put]); (try simp only [List.setIfInBounds_toArray]); (try simp only [List.set_cons_succ]); (try simp only [List.set_cons_zero]))
            refine takeL (i := 11) rfl (by kernel_rfl) (by kernel_rfl) (by kernel_rfl) (fun _ _ _ _ h => h) hHeld ?_ (Or.inl ⟨by rfl, ?_⟩) ?_
            rotate_left
            · intro W hW
              (try dsimp only at hW)
              first | (go_simp; done) | (go_simp; with_reducible rfl)
            ((try simp only [Act.put]); (try simp only [List.setIfInBounds_toArray]); (try simp only [List.set_cons_succ]); (try simp only [List.set_cons_zero]))
            refine takeL (i := 12) rfl (by kernel_rfl) (by kernel_rfl) (by kernel_rfl) (fun _ _ _ _ h => h) hHeld ?_ (Or.inl ⟨by rfl, ?_⟩) ?_
            rotate_left
            · intro W hW
              (try dsimp only at hW)
              first | (go_simp; done) | (go_simp; with_reducible rfl)
            ((try simp only [Act.put]); (try simp only [List.setIfInBounds_toArray]); (try simp only [List.set_cons_succ]); (try simp only [List.set_cons_zero]))
            refine takeL (i := 13) rfl (by kernel_rfl) (by kernel_rfl) (by kernel_rfl) (fun _ _ _ _ h => h) hHeld undef (Or.inr ⟨by rfl, rfl⟩) ?_
            ((try simp only [Act.put]); (try simp only [List.setIfInBounds_toArray]); (try simp only [List.set_cons_succ]); (try simp only [List.set_cons_zero]))
            refine takeL (i := 14) rfl (by kernel_rfl) (by kernel_rfl) (by kernel_rfl) (fun _ _ _ _ h => h) hHeld undef (Or.inr ⟨by rfl, rfl⟩) ?_
            ((try simp only [Act.put]); (try simp only [List.setIfInBounds_toArray]); (try simp only [List.set_cons_succ]); (try simp only [List.set_cons_zero]))
            refine takeL (i := 15) rfl (by kernel_rfl) (by kernel_rfl) (by kernel_rfl) (fun _ _ _ _ h => h) hHeld undef (Or.inr ⟨by rfl, rfl⟩) ?_
            ((try simp only [Act.put]); (try simp only [List.setIfInBounds_toArray]); (try simp only [List.set_cons_succ]); (try simp only [List.set_cons_zero]))
            refine takeL (i := 16) rfl (by kernel_rfl) (by kernel_rfl) (by kernel_rfl) (fun _ _ _ _ h => h) hHeld undef (Or.inr ⟨by rfl, rfl⟩) ?_
            ((try simp only [Act.put]); (try simp only [List.setIfInBounds_toArray]); (try simp only [List.set_cons_succ]); (try simp only [List.set_cons_zero]))
            refine takeL (i := 17) rfl (by kernel_rfl) (by kernel_rfl) (by kernel_rfl) (fun _ _ _ _ h => h) hHeld ?_ (Or.inl ⟨by rfl, ?_⟩) ?_
            rotate_left
            · intro W hW
              (try dsimp only at hW)
              first | (go_simp; done) | (go_simp; with_reducible rfl)
            ((try simp only [Act.put]); (try simp only [List.setIfInBounds_toArray]); (try simp only [List.set_cons_succ]); (try simp only [List.set_cons_zero]))
            refine takeL (i := 18) rfl (by kernel_rfl) (by kernel_rfl) (by kernel_rfl) (fun _ _ _ _ h => h) hHeld ?_ (Or.inl ⟨by rfl, ?_⟩) ?_
            rotate_left
            · intro W hW
              (try dsimp only at hW)
              first | (go_simp; done) | (go_simp; with_reducible rfl)
            ((try simp only [Act.put]); (try simp only [List.setIfInBounds_toArray]); (try simp only [List.set_cons_succ]); (try simp only [List.set_cons_zero]))
            refine takeL (i := 19) rfl (by kernel_rfl) (by kernel_rfl) (by kernel_rfl) (fun _ _ _ _ h => h) hHeld ?_ (Or.inl ⟨by rfl, ?_⟩) ?_
            rotate_left
            · intro W hW
              (try dsimp only at hW)
              first | (go_simp; done) | (go_simp; with_reducible rfl)
            ((try simp only [Act.put]); (try simp only [List.setIfInBounds_toArray]); (try simp only [List.set_cons_succ]); (try simp only [List.set_cons_zero]))
            refine takeL (i := 20) rfl (by kernel_rfl) (by kernel_rfl) (by kernel_rfl) (fun _ _ _ _ h => h) hHeld ?_ (Or.inl ⟨by rfl, ?_⟩) ?_
            rotate_left
            · intro W hW
              (try dsimp only at hW)
              first | (go_simp; done) | (go_simp; with_reducible rfl)
            ((try simp only [Act.put]); (try simp only [List.setIfInBounds_toArray]); (try simp only [List.set_cons_succ]); (try simp only [List.set_cons_zero]))
            refine takeL (i := 21) rfl (by kernel_rfl) (by kernel_rfl) (by kernel_rfl) (fun _ _ _ _ h => h) hHeld ?_ (Or.inl ⟨by rfl, ?_⟩) ?_
            rotate_left
            · intro W hW
              (try dsimp only at hW)
              first | (go_simp; done) | (go_simp; with_reducible rfl)
            ((try simp only [Act.put]); (try simp only [List.setIfInBounds_toArray]); (try simp only [List.set_cons_succ]); (try simp only [List.set_cons_zero]))
            refine takeL (i := 22) rfl (by kernel_rfl) (by kernel_rfl) (by kernel_rfl) (fun _ _ _ _ h => h) hHeld ?_ (Or.inl ⟨by rfl, ?_⟩) ?_
            rotate_left
            · intro W hW
              (try dsimp only at hW)
              first | (go_simp; done) | (go_simp; with_reducible rfl)
            ((try simp only [Act.put]); (try simp only [List.setIfInBounds_toArray]); (try simp only [List.set_cons_succ]); (try simp only [List.set_cons_zero]))
            refine takeL (i := 23) rfl (by kernel_rfl) (by kernel_rfl) (by kernel_rfl) (fun _ _ _ _ h => h) hHeld ?_ (Or.inl ⟨by rfl, ?_⟩) ?_
            rotate_left
            · intro W hW
              (try dsimp only at hW)
              first | (go_simp; done) | (go_simp; with_reducible rfl)
            ((try simp only [Act.put]); (try simp only [List.setIfInBounds_toArray]); (try simp only [List.set_cons_succ]); (try simp only [List.set_cons_zero]))
            refine takeL (i := 25) rfl (by kernel_rfl) (by kernel_rfl) (by kernel_rfl) (fun _ _ _ _ h => h) hHeld ?_ (Or.inl ⟨by rfl, ?_⟩) ?_
            rotate_left
            · intro W hW
              (try dsimp only at hW)
              first | (go_simp; done) | (go_simp; with_reducible rfl)
            ((try simp only [Act.put]); (try simp only [List.setIfInBounds_toArray]); (try simp only [List.set_cons_succ]); (try simp only [List.set_cons_zero]))
            refine takeL (i := 26) rfl (by kernel_rfl) (by kernel_rfl) (by kernel_rfl) (fun _ _ _ _ h => h) hHeld ?_ (Or.inl ⟨by rfl, ?_⟩) ?_
            rotate_left
            · intro W hW
              (try dsimp only at hW)
              first | (go_simp; done) | (go_simp; with_reducible rfl)
            ((try simp only [Act.put]); (try simp only [List.setIfInBounds_toArray]); (try simp only [List.set_cons_succ]); (try simp only [List.set_cons_zero]))
            refine callL (i := 24) rfl (by kernel_rfl) (fun K hK => ?_)
            rw [if_pos (by rfl)]
            go_simp
            refine (hgr.out _ H).mono ?_
            rintro r w20 ⟨rfl, H5⟩
            have H' := H5
            clear H hHeld
            clear H5
            have H := H'
            clear H'
            refine hK.out _ _ ?_ (fun hHeld => ?_)
            · exact hrd.out _ H
            clear hK K
            ((try simp only [Act.put]); (try simp only [List.setIfInBounds_toArray]); (try simp only [List.set_cons_succ]); (try simp only [List.set_cons_zero]))
            refine callL (i := 27) rfl (by kernel_rfl) (fun K hK => ?_)
            rw [if_pos (by rfl)]
            go_simp
            refine (cmpSS_c H hc2.out).mono ?_
            rintro r w21 ⟨rfl, H5⟩
            have H' := H5
            clear H hHeld
            clear H5
            have H := H'
            clear H'
            refine hK.out _ _ ?_ (fun hHeld => ?_)
            · exact hrd.out _ H
            clear hK K
            ((try simp only [Act.put]); (try simp only [List.setIfInBounds_toArray]); (try simp only [List.set_cons_succ]); (try simp only [List.set_cons_zero]))
            refine takeL (i := 28) rfl (by kernel_rfl) (by kernel_rfl) (by kernel_rfl) (fun _ _ _ _ h => h) hHeld ?_ (Or.inl ⟨by rfl, ?_⟩) ?_
            rotate_left
            · intro W hW
              (try dsimp only at hW)
              first | (go_simp; done) | (go_simp; with_reducible rfl)
            ((try simp only [Act.put]); (try simp only [List.setIfInBounds_toArray]); (try simp only [List.set_cons_succ]); (try simp only [List.set_cons_zero]))
            refine takeL (i := 29) rfl (by kernel_rfl) (by kernel_rfl) (by kernel_rfl) (fun _ _ _ _ h => h) hHeld ?_ (Or.inl ⟨by rfl, ?_⟩) ?_
            rotate_left
            · intro W hW
              (try dsimp only at hW)
              first | (go_simp; done) | (go_simp; with_reducible rfl)
            ((try simp only [Act.put]); (try simp only [List.setIfInBounds_toArray]); (try simp only [List.set_cons_succ]); (try simp only [List.set_cons_zero]))
            refine wpAnyH_done (by kernel_rfl) ?_ _
            
            clear hHeld
            have d0 := (hrd.out _ H).1
            have d1 := (hrd.out _ H).2.1
            have d2 := (hrd.out _ H).2.2.1
            have hrdz := Lib.hid (hrz.out _ H)
            have hHT := Lib.hid H
            clear H hef hn1 hn2 hai
            go_wp2_with fail
            go_loop [193, 16] (fun i t => ∃ j : Nat, j ≤ m15 ∧ i = .int .i64 j ∧ t = .bool (decide ((a : Int) ∈ z.ms.take j))) (fun i _ => m15 - (intOf i).toNat)
            case atStart => exact ⟨0, by omega, rfl, by simp⟩
            case round =>
              obtain ⟨j, hj, rfl, rfl⟩ := hrel
              by_cases hjm : j < m15
              · have hjl : j < z.ms.length := by rw [hm15.out]; exact hjm
                obtain ⟨lb, lo, rfl, hcl⟩ := hrdz.out.cell hjl
                have htk := List.take_succ_eq_append_getElem hjl
                generalize z.ms[j]'hjl = q at *
                obtain ⟨e1, he1⟩ : ∃ e, decide ((a : Int) ∈ z.ms.take j) = e := ⟨_, rfl⟩
                obtain ⟨e2, he2⟩ : ∃ e, (q == (a : Int)) = e := ⟨_, rfl⟩
                have hnx := Lib.hid (show decide ((a : Int) ∈ z.ms.take (j + 1)) = (e1 || e2) from by rw [htk, ← he1, ← he2]; exact mem_snoc _ _ _)
                rw [he1]
                clear he1 htk
                cases e1
                · go_wp2_with fail
                  go_round
                  case rel => exact ⟨j + 1, by omega, by go_num, by rw [hnx.out]; simp⟩
                  case measure => (simp [intOf]; try omega)
                · go_wp2_with fail
                  go_round
                  case rel => exact ⟨j + 1, by omega, by go_num, by rw [hnx.out]; simp⟩
                  case measure => (simp [intOf]; try omega)
              · obtain rfl : m15 = j := by omega
                have hin : decide ((a : Int) ∈ z.ms.take m15) = true := by rw [← hm15.out, List.take_length]; exact decide_eq_true hmem.out
                rw [hin]
                clear hin
                go_wp2_with fail
                go_loopw [209] (fun i V => ∃ j : Nat, j ≤ 6 ∧ i = .int .i64 j ∧ SL V (ALLN 6 p g2 x2 T15)) (fun i _ => 6 - (intOf i).toNat)
                case atStart => exact ⟨0, by omega, rfl, hHT.out⟩
                case round =>
                  clear d0 d1 d2
                  obtain ⟨j, hj, rfl, H⟩ := hrel
                  obtain ⟨d0, d1, d2, -, -, -, -⟩ := hrd.out _ H
                  by_cases hj6 : j < 6
                  · have hpj := hpt.out _ H j hj6
                    have hsm := Lib.hid (fun h1 h2 => (hI2.out.one j hj6).same (hI2.out.one a ha) hI2.out.vsi h1 h2)
                    rw [hz'.out] at hsm
                    have hlj := Lib.hid (hI2.out.one j hj6).ok.len
                    have c := Lib.hid (allView H hj6 (hI2.out.one j hj6).ok)
                    clear H
                    go_wp2_with fail
                    refine c.out.mono ?_
                    rintro r W25 ⟨a19, c19, rfl, H⟩
                    generalize x2 j = u at *
                    clear c hpj d0 d1 d2
                    have H4 := all_in (H.alloc [.int .u32 u.N, .int .i64 u.By, .slice a19 u.ms.length c19] 34)
                    obtain ⟨d0, d1, d2, -, -, -, -⟩ := hrd.out _ (all_re H4 (.drop (.drop (.same _))))
                    by_cases h19 : u.N = z.N ∧ u.By = z.By
                    · have hmsu := Lib.hid (hsm.out h19.1 h19.2)
                      have hq := Lib.hid h19
                      have hef : ∀ V, (binOp .eql 31 (.agg #[.int .u32 u.N, .int .i64 u.By]) (.agg #[.int .u32 N15, .int .i64 By15])).run Try.prog V = .ok (.bool true) V := fun V => by rw [eql_epoch, ← hNz.out.1, ← hNz.out.2, decide_eq_true h19]
                      have c := Lib.hid (sameQ (ca := c19) (cb := c15) H4 (show u.N = N15 ∧ u.By = By15 from by rw [← hNz.out.1, ← hNz.out.2]; exact h19) rfl hm15.out hmsu.out (by have := hlj.out; omega) (OwnK.rdI (show OwnK _ 0 3 1 (.slice a19 u.ms.length c19) u.ms.length (iv u.ms) from (all_tail H4).ownOf (.there (.here _ _)))).2.2 (hrz.out _ (all_re H4 (.drop (.drop (.same _))))))
                      clear H H4 h19
                      go_wp2_with fail
                      refine c.out.mono ?_
                      rintro r W26 ⟨rfl, H⟩
                      have hH := Lib.hid H
                      clear H c d0 d1 d2 hef
                      go_wp2_with fail
                      go_roundw
                      case rel => exact ⟨j + 1, by omega, by go_num, all_re hH.out (.drop (.drop (.same _)))⟩
                      case measure => (simp [intOf]; try omega)
                    · have hef : ∀ V, (binOp .eql 31 (.agg #[.int .u32 u.N, .int .i64 u.By]) (.agg #[.int .u32 N15, .int .i64 By15])).run Try.prog V = .ok (.bool false) V := fun V => by rw [eql_epoch, ← hNz.out.1, ← hNz.out.2, decide_eq_false h19]
                      have hH := Lib.hid H4
                      clear H H4 h19
                      go_wp2_with fail
                      go_roundw
                      case rel => exact ⟨j + 1, by omega, by go_num, all_re hH.out (.drop (.drop (.same _)))⟩
                      case measure => (simp [intOf]; try omega)
                  · obtain rfl : j = 6 := by omega
                    have hfin := Lib.hid (show SL _ (ALLN 6 p g2 x2 (TT mb mc p vs2 va2 vc2 w)) from all_re (by rw [← hT15.out] at H; exact H) (.drop (.drop (.drop (.drop (.same _))))))
                    clear H d0 d1 d2
                    go_wp2_with fail
                    go_roundw
                    case rel => exact ⟨k + 1, vs2, va2, vc2, by omega, by go_num, rfl, hv2, by omega, g2, x2, hI2.out, hfin.out⟩
                    case measure => (simp [intOf]; try omega)
    · obtain rfl : k = n := by omega
      have hfin := Lib.hid hkp
      clear H hI hkp
      go_wp2_with fail
      go_ret
      exact ⟨rfl, hfin.out⟩
end Go.Proofs.Ytaibdcglhibglaa
