/- The walk of the law BarrierPlays: the law itself. -/
import Derived.Test.YtejgkehcplajhaaPlays
namespace Go.Proofs.Ytejgkehcplajhaa
open Go.RowKit
set_option linter.unusedVariables false

/-- A slice that came in of calls: a kind, a node, a frame each. -/
def RdOp (w : World) (a : Option Addr) (n : Nat) (f : Nat → Int × Int × Int) : Prop :=
  ∀ i, i < n → ∃ b o, a = some ⟨b, o, none⟩ ∧ w.cell? ⟨b, o + i * 3, none⟩ = some (.int .i64 (f i).1) ∧ w.cell? ⟨b, o + i * 3 + 1, none⟩ = some (.int .i64 (f i).2.1) ∧ w.cell? ⟨b, o + i * 3 + 2, none⟩ = some (.int .i64 (f i).2.2)
theorem RdOp.no {w w' : World} {a : Option Addr} {n : Nat} {f : Nat → Int × Int × Int} (h : RdOp w a n f) (k : Kp no w w') : RdOp w' a n f := fun i hi => by
  obtain ⟨b, o, h1, h2, h3, h4⟩ := h i hi
  exact ⟨b, o, h1, k.cell h2 (fun h => h), k.cell h3 (fun h => h), k.cell h4 (fun h => h)⟩

set_option maxRecDepth 100000 in
set_option maxHeartbeats 8000000 in
theorem plays_c (sa a : Option Addr) (sc len cap : Nat) (ms : List Int) (fr n : Int) (ops : Nat → Int × Int × Int) (w : World) (hm : ms.length ≤ 9223372036854775807) (hlen : len ≤ 9223372036854775807)
    (hs : RdI w sa ms) (hnil : sa = none → sc = 0) (ho : RdOp w a len ops) :
    Calls Try.prog 5 #[.agg #[.slice sa ms.length sc, .int .i64 fr, .int .i64 n], .slice a len cap] w fun e w' => e = .returned (.bool true) ∧ Kp no w w' := by
  have hs' := Lib.hid hs
  have ho' := Lib.hid ho
  have hnil' := Lib.hid hnil
  obtain ⟨M, hM⟩ : ∃ M, ms.length = M := ⟨_, rfl⟩
  have hM' := Lib.hid hM
  rw [hM] at hm ⊢
  clear hs ho hnil hM
  by_cases h1 : 300 < len
  · have hd : decide ((300 : Int) < (len : Int)) = true := by simp; omega
    go_enter Try.func5, Try.ntmps5
    go_wp2_with fail
    go_ret
    exact ⟨rfl, (Kp.refl no w).alloc _⟩
  · have hd : decide ((300 : Int) < (len : Int)) = false := by simp; omega
    by_cases h2 : 100 < M
    · have hd2 : decide ((100 : Int) < (M : Int)) = true := by simp; omega
      go_enter Try.func5, Try.ntmps5
      go_wp2_with fail
      go_ret
      exact ⟨rfl, (Kp.refl no w).alloc _⟩
    · have hd2 : decide ((100 : Int) < (M : Int)) = false := by simp; omega
      have hM100 : M ≤ 100 := by omega
      have hl300 : len ≤ 300 := by omega
      have hml := Lib.hid (show ms.length ≤ 100 by rw [hM'.out]; exact hM100)
      clear h1 h2 hm hlen
      go_enter Try.func5, Try.ntmps5
      go_wp2_with (
        at_builtin
        have H1 := ((SL.start w).alloc [.slice sa M sc, .int .i64 fr, .int .i64 n] 45).empty 3
        rw [World.size_alloc] at H1
        refine sl_app H1 rfl _ _ _ rfl elemI _ rfl (.here _ _) (iv ms) rfl (by rw [iv_length, hM'.out, Nat.mul_one]) (hs'.out.rd.no (H1.kp (by first | exact .here _ _ | exact .there (.here _ _) | exact .there (.there (.here _ _)) | exact .there (.there (.there (.here _ _))) | exact .there (.there (.there (.there (.here _ _)))) | exact .there (.there (.there (.there (.there (.here _ _))))) | exact .there (.there (.there (.there (.there (.there (.here _ _)))))) | exact .there (.there (.there (.there (.there (.there (.there (.here _ _))))))) | exact .there (.there (.there (.there (.there (.there (.there (.there (.here _ _)))))))) | exact .there (.there (.there (.there (.there (.there (.there (.there (.there (.here _ _))))))))) | exact .there (.there (.there (.there (.there (.there (.there (.there (.there (.there (.here _ _)))))))))) | exact .there (.there (.there (.there (.there (.there (.there (.there (.there (.there (.there (.here _ _))))))))))) | exact .there (.there (.there (.there (.there (.there (.there (.there (.there (.there (.there (.there (.here _ _)))))))))))) | exact .there (.there (.there (.there (.there (.there (.there (.there (.there (.there (.there (.there (.there (.here _ _)))))))))))))))) (iv_one ms) (by simp only [maxLen]; omega) (by omega) hnil'.out ?_
        intro v' w3 H hnil
        obtain ⟨oa, oc, rfl, -⟩ := OwnK.slice H.head
        generalize w.heap.size = q2 at *
        rw [Nat.zero_add, List.nil_append] at H
        (have C := H.cells; dsimp only [cellsOf, Pc.cells, cellsFrom, iset, Nat.zero_add, Nat.reduceAdd] at C; (try simp only [true_and] at C); (try simp only [and_true] at C))
        clear H1 hnil)
      have hr3 := (OwnK.rdI (H.ownOf (.here _ _))).2.2
      have hN := new_c ms fr n oa oc w3 H hml.out hr3
      rw [hM'.out] at hN
      have hN' := Lib.hid hN
      have hk3 := H.kp (by first | exact .here _ _ | exact .there (.here _ _) | exact .there (.there (.here _ _)) | exact .there (.there (.there (.here _ _))) | exact .there (.there (.there (.there (.here _ _)))) | exact .there (.there (.there (.there (.there (.here _ _))))) | exact .there (.there (.there (.there (.there (.there (.here _ _)))))) | exact .there (.there (.there (.there (.there (.there (.there (.here _ _))))))) | exact .there (.there (.there (.there (.there (.there (.there (.there (.here _ _)))))))) | exact .there (.there (.there (.there (.there (.there (.there (.there (.there (.here _ _))))))))) | exact .there (.there (.there (.there (.there (.there (.there (.there (.there (.there (.here _ _)))))))))) | exact .there (.there (.there (.there (.there (.there (.there (.there (.there (.there (.there (.here _ _))))))))))) | exact .there (.there (.there (.there (.there (.there (.there (.there (.there (.there (.there (.there (.here _ _)))))))))))) | exact .there (.there (.there (.there (.there (.there (.there (.there (.there (.there (.there (.there (.there (.here _ _))))))))))))))
      have hR3 := refNew_c ms fr n sa sc w3 H hml.out (hs'.out.no hk3) hnil'.out
      rw [hM'.out] at hR3
      have hR3' := Lib.hid hR3
      have hH := Lib.hid H
      clear hN hr3 hR3 H
      refine hN'.out.mono ?_
      rintro e V (⟨hng, rfl, rfl⟩ | ⟨hg, p, m, a', c', rfl, H⟩)
      · clear hN'
        have hng' := Lib.hid hng
        clear hng
        go_wp2_with fail
        refine hR3'.out.mono ?_
        rintro e V (⟨-, rfl, rfl⟩ | ⟨hg, -⟩)
        · clear hR3'
          go_wp2_with fail
          go_ret
          exact ⟨rfl, hk3⟩
        · exact absurd hg hng'.out
      · clear hN' hR3' hk3 C hH
        obtain ⟨frN, rfl⟩ : ∃ frN : Nat, fr = frN := ⟨fr.toNat, by have := hg.2.2.2.2.1; omega⟩
        obtain ⟨nN, rfl⟩ : ∃ nN : Nat, n = nN := ⟨n.toNat, by have := hg.2.2.1; omega⟩
        have hok := Lib.hid (good_ok hg hml.out)
        have hM1 : 1 ≤ M := by have := hM'.out; have := hg.2.1; cases ms with | nil => exact absurd rfl this | cons => simp at *; omega
        have hg' := Lib.hid hg
        have hH := Lib.hid H
        have hR3 := refNew_c ms frN nN sa sc V H hml.out (hs'.out.no (H.kp (by first | exact .here _ _ | exact .there (.here _ _) | exact .there (.there (.here _ _)) | exact .there (.there (.there (.here _ _))) | exact .there (.there (.there (.there (.here _ _)))) | exact .there (.there (.there (.there (.there (.here _ _))))) | exact .there (.there (.there (.there (.there (.there (.here _ _)))))) | exact .there (.there (.there (.there (.there (.there (.there (.here _ _))))))) | exact .there (.there (.there (.there (.there (.there (.there (.there (.here _ _)))))))) | exact .there (.there (.there (.there (.there (.there (.there (.there (.there (.here _ _))))))))) | exact .there (.there (.there (.there (.there (.there (.there (.there (.there (.there (.here _ _)))))))))) | exact .there (.there (.there (.there (.there (.there (.there (.there (.there (.there (.there (.here _ _))))))))))) | exact .there (.there (.there (.there (.there (.there (.there (.there (.there (.there (.there (.there (.here _ _)))))))))))) | exact .there (.there (.there (.there (.there (.there (.there (.there (.there (.there (.there (.there (.there (.here _ _)))))))))))))))) hnil'.out
        rw [hM'.out] at hR3
        have hR3' := Lib.hid hR3
        rw [hM'.out] at H
        unfold barB at H
        (have C := H.cells; dsimp only [cellsOf, Pc.cells, cellsFrom, iset, Nat.zero_add, Nat.reduceAdd] at C; (try simp only [true_and] at C); (try simp only [and_true] at C))
        clear hg hR3 H
        go_wp2_with fail
        refine hR3'.out.mono ?_
        rintro e V2 (⟨hng, -⟩ | ⟨-, q, am, cm, ah, ch, vs, rfl, H⟩)
        · exact absurd hg'.out hng
        · simp only [Int.toNat_natCast] at H
          obtain ⟨x, rfl, rfl, rfl, rfl, rfl, rfl, rfl, rfl, rfl, rfl, rfl, rfl⟩ : ∃ x : Cx, x.w = w ∧ x.q = q ∧ x.cm = cm ∧ x.ch = ch ∧ x.am = am ∧ x.ah = ah ∧ x.vs = vs ∧ x.a = a' ∧ x.c = c' ∧ x.ms = ms ∧ x.fr = frN ∧ x.N = nN :=
            ⟨⟨w, q, cm, ch, am, ah, vs, a', c', ms, frN, nN⟩, rfl, rfl, rfl, rfl, rfl, rfl, rfl, rfl, rfl, rfl, rfl, rfl⟩
          have H2 : SL V2 (.own 3 1 (.slice oa M oc) M (iv x.ms) :: CAN x p m x.fr (fun _ => false) x.fr (fun _ => false) [.blk q2 [.slice sa M sc, .int .i64 x.fr, .int .i64 x.N] 45]) := by
            have h3 := (H.perm List.perm_append_comm)
            refine h3.perm ?_
            simp only [List.cons_append, List.nil_append]
            unfold CAN
            rw [hM'.out]
            simp only [List.cons_append, List.nil_append]
            refine List.Perm.trans ?_ (List.perm_middle (l₁ := [_, _, _]) (a := _))
            simp only [List.cons_append, List.nil_append]
            refine .cons _ (.cons _ (.cons _ (.cons _ (.cons _ (List.perm_append_singleton _ _).symm))))
          clear hR3' hH C H
          go_wp2_with fail
          go_loopw [68] (fun i V => ∃ (j : Nat) (xs : List Value), j ≤ M ∧ i = .int .i64 j ∧ SL V (.own 3 1 (.slice oa M oc) M xs :: CAN x p m x.fr (fun _ => false) x.fr (fun _ => false) [.blk q2 [.slice sa M sc, .int .i64 x.fr, .int .i64 x.N] 45])) (fun i _ => M - (intOf i).toNat)
          case atStart => exact ⟨0, _, by omega, rfl, H2⟩
          case round =>
            obtain ⟨j, xs, hj, rfl, H⟩ := hrel
            clear H2
            by_cases hjM : j < M
            · have hxl : xs.length = M := by have := (show OwnK wr 0 3 1 (.slice oa M oc) M xs from H.head).1; omega
              obtain ⟨g, cp, e1, -, -, -, -, -, hc, hfz⟩ : ∃ g cp, oa = some ⟨g, 0, none⟩ ∧ oc = cp ∧ True ∧ True ∧ True ∧ True ∧ (∃ v, wr.cell? ⟨g, j, none⟩ = some v) ∧ wr.frozen? ⟨g, j, none⟩ = false := by
                rcases OwnK.form (show OwnK wr 0 3 1 (.slice oa M oc) M xs from H.head) with ⟨h, _⟩ | ⟨g, cap, h, _, _, _, _, _, h6, h7⟩
                · cases h; omega
                · cases h; exact ⟨g, _, rfl, rfl, trivial, trivial, trivial, trivial, ⟨_, h6 j (by omega)⟩, h7 j⟩
              subst e1
              obtain ⟨v0, hc⟩ := hc
              have H3 := Lib.hid (own_store H j (.int .i64 77))
              clear H
              go_wp2_with fail
              go_roundw
              case rel => exact ⟨j + 1, _, by omega, by go_num, H3.out⟩
              case measure => (simp [intOf]; try omega)
            · obtain rfl : j = M := by omega
              have H2 := Lib.hid H.tail
              clear H
              go_wp2_with fail
              go_loopw [6, 77] (fun b i V => ∃ (k p m f : Nat) (ps : Int → Bool), k ≤ len ∧ i = .int .i64 k ∧ b = .pointer (some ⟨p, 0, none⟩) ∧ Hid (BOk x.fr f x.N x.ms ps) ∧
                SL V (CAN x p m f ps f ps [.blk q2 [.slice sa j sc, .int .i64 x.fr, .int .i64 x.N] 45])) (fun _ i _ => len - (intOf i).toNat)
              case atStart => exact ⟨0, p, m, x.fr, _, by omega, rfl, rfl, hok, H2.out⟩
              case round =>
                clear H2 hok hg'
                obtain ⟨k, p, m, f, ps, hk, rfl, rfl, hok, H⟩ := hrel
                have hH := Lib.hid H
                have H1 := H
                unfold CAN barB at H1
                simp only [List.cons_append, List.nil_append] at H1
                clear H
                have H := H1
                (have C := H.cells; dsimp only [cellsOf, Pc.cells, cellsFrom, iset, Nat.zero_add, Nat.reduceAdd] at C; (try simp only [true_and] at C); (try simp only [and_true] at C))
                have hkp := can_kp hH.out
                clear H H1
                by_cases hkl : k < len
                · obtain ⟨bo, oo, rfl, y1, y2, y3⟩ := ho'.out.no hkp k hkl
                  generalize ops k = op at *
                  obtain ⟨o1, o2, o3⟩ := op
                  dsimp only at y1 y2 y3
                  go_upto_block 4 with fail
                  have H1 : SL (wr.alloc (.cells [Value.int .i64 o1, .int .i64 o2, .int .i64 o3].toArray 53)) (CAN x p m f ps f ps [.blk wr.heap.size [.int .i64 o1, .int .i64 o2, .int .i64 o3] 53, .blk q2 [.slice sa j sc, .int .i64 x.fr, .int .i64 x.N] 45]) :=
                    (hH.out.alloc [.int .i64 o1, .int .i64 o2, .int .i64 o3] 53).re (.step (.there (.here _ _)) (.step (.there (.here _ _)) (.step (.there (.here _ _)) (.same _))))
                  generalize wr.alloc (.cells [Value.int .i64 o1, .int .i64 o2, .int .i64 o3].toArray 53) = w5 at *
                  generalize wr.heap.size = q12 at *
                  have hH1 := Lib.hid H1
                  clear H1 hH C hkp y1 y2 y3
                  go_cut [6, 13] from 86 to 132 (fun b fine V => ∃ (p m f : Nat) (ps : Int → Bool), b = .pointer (some ⟨p, 0, none⟩) ∧ fine = .bool true ∧ Hid (BOk x.fr f x.N x.ms ps) ∧
                    SL V (CAN x p m f ps f ps [.blk q12 [.int .i64 o1, .int .i64 o2, .int .i64 o3] 53, .blk q2 [.slice sa j sc, .int .i64 x.fr, .int .i64 x.N] 45]))
                  case first =>
                    have H := hH1.out
                    unfold CAN barB at H
                    simp only [List.cons_append, List.nil_append] at H
                    (have C := H.cells; dsimp only [cellsOf, Pc.cells, cellsFrom, iset, Nat.zero_add, Nat.reduceAdd] at C; (try simp only [true_and] at C); (try simp only [and_true] at C))
                    clear H
                    have hPass := Lib.hid (fun k => pPassed hH1.out hok.out o2 k)
                    have hRPass := Lib.hid (fun (k : Int) (f1 : Nat) (ps1 : Int → Bool) (V : World) (H : SL V (CAN x p m f1 ps1 f ps [.blk q12 [.int .i64 o1, .int .i64 o2, .int .i64 o3] 53, .blk q2 [.slice sa j sc, .int .i64 x.fr, .int .i64 x.N] 45])) => pRefPassed H hok.out o2 k)
                    by_cases h0 : o1 = 0
                    · subst h0
                      go_wp2_with fail
                      refine (hPass.out o3).mono ?_
                      rintro e V1 ⟨rfl, H1⟩
                      have H := H1
                      unfold CAN barB at H
                      simp only [List.cons_append, List.nil_append] at H
                      clear C
                      (have C := H.cells; dsimp only [cellsOf, Pc.cells, cellsFrom, iset, Nat.zero_add, Nat.reduceAdd] at C; (try simp only [true_and] at C); (try simp only [and_true] at C))
                      clear H
                      have hR1 := Lib.hid (hRPass.out o3 _ _ _ H1)
                      have hok1 := Lib.hid (hok.out.step o2 o3)
                      clear H1
                      generalize passN x.fr f x.N x.ms ps o2 o3 = r at *
                      go_wp2_with fail
                      refine hR1.out.mono ?_
                      rintro e V3 ⟨rfl, H3⟩
                      have H := H3
                      unfold CAN barB at H
                      simp only [List.cons_append, List.nil_append] at H
                      (have C := H.cells; dsimp only [cellsOf, Pc.cells, cellsFrom, iset, Nat.zero_add, Nat.reduceAdd] at C; (try simp only [true_and] at C); (try simp only [and_true] at C))
                      clear H
                      have hH3 := Lib.hid H3
                      clear H3
                      go_wp2_with fail
                      go_meet
                      case rel => exact ⟨_, _, _, _, rfl, rfl, hok1, hH3.out⟩
                    · have h0b : (o1 == 0) = false := by simpa using h0
                      clear h0
                      by_cases h1 : o1 = 1
                      · subst h1
                        have hF := Lib.hid (pRefFrame hH1.out hok.out)
                        go_wp2_with fail
                        refine hF.out.mono ?_
                        rintro e w' ⟨rfl, rfl⟩
                        go_wp2_with fail
                        refine (hPass.out f).mono ?_
                        rintro e V1 ⟨rfl, H1⟩
                        have H := H1
                        unfold CAN barB at H
                        simp only [List.cons_append, List.nil_append] at H
                        clear C
                        (have C := H.cells; dsimp only [cellsOf, Pc.cells, cellsFrom, iset, Nat.zero_add, Nat.reduceAdd] at C; (try simp only [true_and] at C); (try simp only [and_true] at C))
                        clear H
                        have hR1 := Lib.hid (hRPass.out f _ _ _ H1)
                        have hok1 := Lib.hid (hok.out.step o2 f)
                        clear H1
                        generalize passN x.fr f x.N x.ms ps o2 f = r at *
                        go_wp2_with fail
                        refine hR1.out.mono ?_
                        rintro e V3 ⟨rfl, H3⟩
                        have H := H3
                        unfold CAN barB at H
                        simp only [List.cons_append, List.nil_append] at H
                        (have C := H.cells; dsimp only [cellsOf, Pc.cells, cellsFrom, iset, Nat.zero_add, Nat.reduceAdd] at C; (try simp only [true_and] at C); (try simp only [and_true] at C))
                        clear H
                        have hH3 := Lib.hid H3
                        clear H3
                        go_wp2_with fail
                        go_meet
                        case rel => exact ⟨_, _, _, _, rfl, rfl, hok1, hH3.out⟩
                      · have h1b : (o1 == 1) = false := by simpa using h1
                        clear h1
                        by_cases h2 : o1 = 2
                        · subst h2
                          have hC := Lib.hid (pCopy hH1.out hok.out)
                          go_wp2_with fail
                          refine hC.out.mono ?_
                          rintro e w6 ⟨p', m', rfl, H6⟩
                          have hC2 := Lib.hid H6
                          clear C hC H6 hPass hRPass hH1
                          go_wp2_with fail
                          -- REG32
                          refine wp_region_any (by kernel_rfl) ?_
                          try (change wpAny _ _ _ _ _ _ _ (World.drew _))
                          have H := hC2.out.drew
                          generalize World.drew w6 = w0 at *
                          have hj0 : 0 < j := by omega
                          have hpos : 0 < x.ms.length := by rw [hM'.out]; exact hM1
                          obtain ⟨bs, os, es, cs0⟩ := (show RdI w0 sa x.ms from hs'.out.no (can_kp H)).cell hpos
                          rw [Nat.add_zero] at cs0
                          generalize x.ms[0]'hpos = y0 at *
                          subst es
                          have cq := (show SL w0 _ from H).cell (b := q2) (o := 0) (cs := [.slice (some ⟨bs, os, none⟩) j sc, .int .i64 x.fr, .int .i64 x.N]) (t := 45) (by unfold CAN; exact (by first | exact .here _ _ | exact .there (.here _ _) | exact .there (.there (.here _ _)) | exact .there (.there (.there (.here _ _))) | exact .there (.there (.there (.there (.here _ _)))) | exact .there (.there (.there (.there (.there (.here _ _))))) | exact .there (.there (.there (.there (.there (.there (.here _ _)))))) | exact .there (.there (.there (.there (.there (.there (.there (.here _ _))))))) | exact .there (.there (.there (.there (.there (.there (.there (.there (.here _ _)))))))) | exact .there (.there (.there (.there (.there (.there (.there (.there (.there (.here _ _))))))))) | exact .there (.there (.there (.there (.there (.there (.there (.there (.there (.there (.here _ _)))))))))) | exact .there (.there (.there (.there (.there (.there (.there (.there (.there (.there (.there (.here _ _))))))))))) | exact .there (.there (.there (.there (.there (.there (.there (.there (.there (.there (.there (.there (.here _ _)))))))))))) | exact .there (.there (.there (.there (.there (.there (.there (.there (.there (.there (.there (.there (.there (.here _ _))))))))))))))) rfl
                          have hF := Lib.hid (pRefFrame H hok.out)
                          have hP := Lib.hid (pPassed H hok.out y0 f)
                          refine takeW (i := 0) rfl (by kernel_rfl) (by kernel_rfl) (by kernel_rfl) (fun _ _ _ _ h => h) ?_ (Or.inl ⟨by rfl, ?_⟩) ?_
                          rotate_left
                          · intro W
                            first | (go_simp; done) | (go_simp; with_reducible rfl)
                          ((try simp only [Act.put]); (try simp only [List.setIfInBounds_toArray]); (try simp only [List.set_cons_succ]); (try simp only [List.set_cons_zero]))
                          refine takeW (i := 1) rfl (by kernel_rfl) (by kernel_rfl) (by kernel_rfl) (fun _ _ _ _ h => h) ?_ (Or.inl ⟨by rfl, ?_⟩) ?_
                          rotate_left
                          · intro W
                            first | (go_simp; done) | (go_simp; with_reducible rfl)
                          ((try simp only [Act.put]); (try simp only [List.setIfInBounds_toArray]); (try simp only [List.set_cons_succ]); (try simp only [List.set_cons_zero]))
                          refine takeW (i := 5) rfl (by kernel_rfl) (by kernel_rfl) (by kernel_rfl) (fun _ _ _ _ h => h) ?_ (Or.inl ⟨by rfl, ?_⟩) ?_
                          rotate_left
                          · intro W
                            first | (go_simp; done) | (go_simp; with_reducible rfl)
                          ((try simp only [Act.put]); (try simp only [List.setIfInBounds_toArray]); (try simp only [List.set_cons_succ]); (try simp only [List.set_cons_zero]))
                          refine wpAny_ready (rs := [2, 6]) (by kernel_rfl) (by simp) ?_
                          refine AllReady.cons rfl (fun K hK => ?_) ?_
                          · rw [if_pos (by rfl)]
                            go_simp
                            refine hK _ _ ?_
                            clear hK K
                            ((try simp only [Act.put]); (try simp only [List.setIfInBounds_toArray]); (try simp only [List.set_cons_succ]); (try simp only [List.set_cons_zero]))
                            refine takeW (i := 3) rfl (by kernel_rfl) (by kernel_rfl) (by kernel_rfl) (fun _ _ _ _ h => h) ?_ (Or.inl ⟨by rfl, ?_⟩) ?_
                            rotate_left
                            · intro W
                              first | (go_simp; done) | (go_simp; with_reducible rfl)
                            ((try simp only [Act.put]); (try simp only [List.setIfInBounds_toArray]); (try simp only [List.set_cons_succ]); (try simp only [List.set_cons_zero]))
                            refine wpAny_ready (rs := [4, 6]) (by kernel_rfl) (by simp) ?_
                            refine AllReady.cons rfl (fun K hK => ?_) ?_
                            · rw [if_pos (by rfl)]
                              go_simp
                              refine hK _ _ ?_
                              clear hK K
                              ((try simp only [Act.put]); (try simp only [List.setIfInBounds_toArray]); (try simp only [List.set_cons_succ]); (try simp only [List.set_cons_zero]))
                              refine wpAny_ready (rs := [6]) (by kernel_rfl) (by simp) ?_
                              refine AllReady.cons rfl (fun K hK => ?_) ?_
                              · rw [if_pos (by rfl)]
                                go_simp
                                refine hF.out.mono ?_
                                rintro e w' ⟨rfl, rfl⟩
                                refine hK _ _ ?_
                                clear hK K
                                ((try simp only [Act.put]); (try simp only [List.setIfInBounds_toArray]); (try simp only [List.set_cons_succ]); (try simp only [List.set_cons_zero]))
                                refine wpAny_ready (rs := [7]) (by kernel_rfl) (by simp) ?_
                                refine AllReady.cons rfl (fun K hK => ?_) ?_
                                · rw [if_pos (by rfl)]
                                  go_simp
                                  refine hP.out.mono ?_
                                  rintro e w7 ⟨rfl, H7⟩
                                  refine hK _ _ ?_
                                  clear hK K
                                  ((try simp only [Act.put]); (try simp only [List.setIfInBounds_toArray]); (try simp only [List.set_cons_succ]); (try simp only [List.set_cons_zero]))
                                  refine wpAny_done (by kernel_rfl) ?_ _
                                  have H8 := Lib.hid (can_turn H7)
                                  clear H7
                                  go_wp2_with fail
                                  go_meet
                                  case rel => exact ⟨p', m', f, ps, rfl, rfl, hok, H8.out⟩
                                exact AllReady.nil
                              exact AllReady.nil
                            refine AllReady.cons rfl (fun K hK => ?_) ?_
                            · rw [if_pos (by rfl)]
                              go_simp
                              refine hF.out.mono ?_
                              rintro e w' ⟨rfl, rfl⟩
                              refine hK _ _ ?_
                              clear hK K
                              ((try simp only [Act.put]); (try simp only [List.setIfInBounds_toArray]); (try simp only [List.set_cons_succ]); (try simp only [List.set_cons_zero]))
                              refine wpAny_ready (rs := [4]) (by kernel_rfl) (by simp) ?_
                              refine AllReady.cons rfl (fun K hK => ?_) ?_
                              · rw [if_pos (by rfl)]
                                go_simp
                                refine hK _ _ ?_
                                clear hK K
                                ((try simp only [Act.put]); (try simp only [List.setIfInBounds_toArray]); (try simp only [List.set_cons_succ]); (try simp only [List.set_cons_zero]))
                                refine wpAny_ready (rs := [7]) (by kernel_rfl) (by simp) ?_
                                refine AllReady.cons rfl (fun K hK => ?_) ?_
                                · rw [if_pos (by rfl)]
                                  go_simp
                                  refine hP.out.mono ?_
                                  rintro e w7 ⟨rfl, H7⟩
                                  refine hK _ _ ?_
                                  clear hK K
                                  ((try simp only [Act.put]); (try simp only [List.setIfInBounds_toArray]); (try simp only [List.set_cons_succ]); (try simp only [List.set_cons_zero]))
                                  refine wpAny_done (by kernel_rfl) ?_ _
                                  have H8 := Lib.hid (can_turn H7)
                                  clear H7
                                  go_wp2_with fail
                                  go_meet
                                  case rel => exact ⟨p', m', f, ps, rfl, rfl, hok, H8.out⟩
                                exact AllReady.nil
                              exact AllReady.nil
                            exact AllReady.nil
                          refine AllReady.cons rfl (fun K hK => ?_) ?_
                          · rw [if_pos (by rfl)]
                            go_simp
                            refine hF.out.mono ?_
                            rintro e w' ⟨rfl, rfl⟩
                            refine hK _ _ ?_
                            clear hK K
                            ((try simp only [Act.put]); (try simp only [List.setIfInBounds_toArray]); (try simp only [List.set_cons_succ]); (try simp only [List.set_cons_zero]))
                            refine wpAny_ready (rs := [2]) (by kernel_rfl) (by simp) ?_
                            refine AllReady.cons rfl (fun K hK => ?_) ?_
                            · rw [if_pos (by rfl)]
                              go_simp
                              refine hK _ _ ?_
                              clear hK K
                              ((try simp only [Act.put]); (try simp only [List.setIfInBounds_toArray]); (try simp only [List.set_cons_succ]); (try simp only [List.set_cons_zero]))
                              refine takeW (i := 3) rfl (by kernel_rfl) (by kernel_rfl) (by kernel_rfl) (fun _ _ _ _ h => h) ?_ (Or.inl ⟨by rfl, ?_⟩) ?_
                              rotate_left
                              · intro W
                                first | (go_simp; done) | (go_simp; with_reducible rfl)
                              ((try simp only [Act.put]); (try simp only [List.setIfInBounds_toArray]); (try simp only [List.set_cons_succ]); (try simp only [List.set_cons_zero]))
                              refine wpAny_ready (rs := [4]) (by kernel_rfl) (by simp) ?_
                              refine AllReady.cons rfl (fun K hK => ?_) ?_
                              · rw [if_pos (by rfl)]
                                go_simp
                                refine hK _ _ ?_
                                clear hK K
                                ((try simp only [Act.put]); (try simp only [List.setIfInBounds_toArray]); (try simp only [List.set_cons_succ]); (try simp only [List.set_cons_zero]))
                                refine wpAny_ready (rs := [7]) (by kernel_rfl) (by simp) ?_
                                refine AllReady.cons rfl (fun K hK => ?_) ?_
                                · rw [if_pos (by rfl)]
                                  go_simp
                                  refine hP.out.mono ?_
                                  rintro e w7 ⟨rfl, H7⟩
                                  refine hK _ _ ?_
                                  clear hK K
                                  ((try simp only [Act.put]); (try simp only [List.setIfInBounds_toArray]); (try simp only [List.set_cons_succ]); (try simp only [List.set_cons_zero]))
                                  refine wpAny_done (by kernel_rfl) ?_ _
                                  have H8 := Lib.hid (can_turn H7)
                                  clear H7
                                  go_wp2_with fail
                                  go_meet
                                  case rel => exact ⟨p', m', f, ps, rfl, rfl, hok, H8.out⟩
                                exact AllReady.nil
                              exact AllReady.nil
                            exact AllReady.nil
                          exact AllReady.nil
                          -- ENDREG32
                        · have h2b : (o1 == 2) = false := by simpa using h2
                          clear h2
                          go_wp2_with fail
                          go_meet
                          case rel => exact ⟨_, _, _, _, rfl, rfl, hok, hH1.out⟩
                  case rest =>
                    clear hH1 hok
                    obtain ⟨p, m, f, ps, rfl, rfl, hok, H⟩ := hcut
                    have hFr := Lib.hid (pFrame H hok.out)
                    clear H
                    go_wp2_with fail
                    refine hFr.out.mono ?_
                    rintro e w8 ⟨rfl, H8⟩
                    have hMi := Lib.hid (pMissing H8 hok.out)
                    clear H8 hFr
                    obtain ⟨b0, hb0⟩ : ∃ b0, decide (f < x.N) = b0 := ⟨_, rfl⟩
                    rw [show decide ((f : Int) < (x.N : Int)) = b0 from by rw [← hb0, decide_eq_decide]; omega]
                    have hb0' := Lib.hid hb0
                    clear hb0
                    go_wp2_with fail
                    refine hMi.out.mono ?_
                    rintro e w9 ⟨a1, c1, rfl, H9⟩
                    obtain ⟨X, hX⟩ : ∃ X, missM f x.N x.ms ps = X := ⟨_, rfl⟩
                    have hXl : X.length ≤ 1000000 := by
                      have h1 := missM_len f x.N x.ms ps
                      have h2 := hml.out
                      rw [hX] at h1
                      omega
                    rw [hX] at H9 ⊢
                    have hX' := Lib.hid hX
                    have hH3 := Lib.hid H9
                    clear hMi H9 hX
                    have hX := hX'
                    go_wp2_with fail
                    have hb0 := hb0'.out
                    -- REG35
                    refine wp_region_held_drew (S := (fun W => W.cell? ⟨q12, 1, none⟩ = some (.int .i64 o2) ∧ W.cell? ⟨q12, 2, none⟩ = some (.int .i64 o3) ∧ W.cell? ⟨q2, 2, none⟩ = some (.int .i64 x.N))) (by kernel_rfl) ?_ (fun hHeld => ?_)
                    · have H := hH3.out.drew
                      have h := H
                      unfold CAN at h
                      exact ⟨h.cell (by first | exact .here _ _ | exact .there (.here _ _) | exact .there (.there (.here _ _)) | exact .there (.there (.there (.here _ _))) | exact .there (.there (.there (.there (.here _ _)))) | exact .there (.there (.there (.there (.there (.here _ _))))) | exact .there (.there (.there (.there (.there (.there (.here _ _)))))) | exact .there (.there (.there (.there (.there (.there (.there (.here _ _))))))) | exact .there (.there (.there (.there (.there (.there (.there (.there (.here _ _)))))))) | exact .there (.there (.there (.there (.there (.there (.there (.there (.there (.here _ _))))))))) | exact .there (.there (.there (.there (.there (.there (.there (.there (.there (.there (.here _ _)))))))))) | exact .there (.there (.there (.there (.there (.there (.there (.there (.there (.there (.there (.here _ _))))))))))) | exact .there (.there (.there (.there (.there (.there (.there (.there (.there (.there (.there (.there (.here _ _)))))))))))) | exact .there (.there (.there (.there (.there (.there (.there (.there (.there (.there (.there (.there (.there (.here _ _)))))))))))))) rfl, h.cell (by first | exact .here _ _ | exact .there (.here _ _) | exact .there (.there (.here _ _)) | exact .there (.there (.there (.here _ _))) | exact .there (.there (.there (.there (.here _ _)))) | exact .there (.there (.there (.there (.there (.here _ _))))) | exact .there (.there (.there (.there (.there (.there (.here _ _)))))) | exact .there (.there (.there (.there (.there (.there (.there (.here _ _))))))) | exact .there (.there (.there (.there (.there (.there (.there (.there (.here _ _)))))))) | exact .there (.there (.there (.there (.there (.there (.there (.there (.there (.here _ _))))))))) | exact .there (.there (.there (.there (.there (.there (.there (.there (.there (.there (.here _ _)))))))))) | exact .there (.there (.there (.there (.there (.there (.there (.there (.there (.there (.there (.here _ _))))))))))) | exact .there (.there (.there (.there (.there (.there (.there (.there (.there (.there (.there (.there (.here _ _)))))))))))) | exact .there (.there (.there (.there (.there (.there (.there (.there (.there (.there (.there (.there (.there (.here _ _)))))))))))))) rfl, h.cell (by first | exact .here _ _ | exact .there (.here _ _) | exact .there (.there (.here _ _)) | exact .there (.there (.there (.here _ _))) | exact .there (.there (.there (.there (.here _ _)))) | exact .there (.there (.there (.there (.there (.here _ _))))) | exact .there (.there (.there (.there (.there (.there (.here _ _)))))) | exact .there (.there (.there (.there (.there (.there (.there (.here _ _))))))) | exact .there (.there (.there (.there (.there (.there (.there (.there (.here _ _)))))))) | exact .there (.there (.there (.there (.there (.there (.there (.there (.there (.here _ _))))))))) | exact .there (.there (.there (.there (.there (.there (.there (.there (.there (.there (.here _ _)))))))))) | exact .there (.there (.there (.there (.there (.there (.there (.there (.there (.there (.there (.here _ _))))))))))) | exact .there (.there (.there (.there (.there (.there (.there (.there (.there (.there (.there (.there (.here _ _)))))))))))) | exact .there (.there (.there (.there (.there (.there (.there (.there (.there (.there (.there (.there (.there (.here _ _)))))))))))))) rfl⟩
                    have H := hH3.out.drew
                    generalize World.drew w9 = w0 at *
                    refine takeL (i := 0) rfl (by kernel_rfl) (by kernel_rfl) (by kernel_rfl) (fun _ _ _ _ h => h) hHeld ?_ (Or.inl ⟨by rfl, ?_⟩) ?_
                    rotate_left
                    · intro W hW
                      (try dsimp only at hW)
                      first | (go_simp; done) | (go_simp; with_reducible rfl)
                    ((try simp only [Act.put]); (try simp only [List.setIfInBounds_toArray]); (try simp only [List.set_cons_succ]); (try simp only [List.set_cons_zero]))
                    refine takeL (i := 1) rfl (by kernel_rfl) (by kernel_rfl) (by kernel_rfl) (fun _ _ _ _ h => h) hHeld ?_ (Or.inl ⟨by rfl, ?_⟩) ?_
                    rotate_left
                    · intro W hW
                      (try dsimp only at hW)
                      first | (go_simp; done) | (go_simp; with_reducible rfl)
                    ((try simp only [Act.put]); (try simp only [List.setIfInBounds_toArray]); (try simp only [List.set_cons_succ]); (try simp only [List.set_cons_zero]))
                    refine takeL (i := 2) rfl (by kernel_rfl) (by kernel_rfl) (by kernel_rfl) (fun _ _ _ _ h => h) hHeld ?_ (Or.inl ⟨by rfl, ?_⟩) ?_
                    rotate_left
                    · intro W hW
                      (try dsimp only at hW)
                      first | (go_simp; done) | (go_simp; with_reducible rfl)
                    ((try simp only [Act.put]); (try simp only [List.setIfInBounds_toArray]); (try simp only [List.set_cons_succ]); (try simp only [List.set_cons_zero]))
                    refine takeL (i := 3) rfl (by kernel_rfl) (by kernel_rfl) (by kernel_rfl) (fun _ _ _ _ h => h) hHeld ?_ (Or.inl ⟨by rfl, ?_⟩) ?_
                    rotate_left
                    · intro W hW
                      (try dsimp only at hW)
                      first | (go_simp; done) | (go_simp; with_reducible rfl)
                    ((try simp only [Act.put]); (try simp only [List.setIfInBounds_toArray]); (try simp only [List.set_cons_succ]); (try simp only [List.set_cons_zero]))
                    refine takeL (i := 4) rfl (by kernel_rfl) (by kernel_rfl) (by kernel_rfl) (fun _ _ _ _ h => h) hHeld ?_ (Or.inl ⟨by rfl, ?_⟩) ?_
                    rotate_left
                    · intro W hW
                      (try dsimp only at hW)
                      first | (go_simp; done) | (go_simp; with_reducible rfl)
                    ((try simp only [Act.put]); (try simp only [List.setIfInBounds_toArray]); (try simp only [List.set_cons_succ]); (try simp only [List.set_cons_zero]))
                    refine callL (i := 5) rfl (by kernel_rfl) (fun K hK => ?_)
                    rw [if_pos (by rfl)]
                    go_simp
                    refine (pRefFrame H hok.out).mono ?_
                    rintro e w' ⟨rfl, rfl⟩
                    clear hHeld
                    refine hK.out _ _ ?_ (fun hHeld => ?_)
                    · have h := H
                      unfold CAN at h
                      exact ⟨h.cell (by first | exact .here _ _ | exact .there (.here _ _) | exact .there (.there (.here _ _)) | exact .there (.there (.there (.here _ _))) | exact .there (.there (.there (.there (.here _ _)))) | exact .there (.there (.there (.there (.there (.here _ _))))) | exact .there (.there (.there (.there (.there (.there (.here _ _)))))) | exact .there (.there (.there (.there (.there (.there (.there (.here _ _))))))) | exact .there (.there (.there (.there (.there (.there (.there (.there (.here _ _)))))))) | exact .there (.there (.there (.there (.there (.there (.there (.there (.there (.here _ _))))))))) | exact .there (.there (.there (.there (.there (.there (.there (.there (.there (.there (.here _ _)))))))))) | exact .there (.there (.there (.there (.there (.there (.there (.there (.there (.there (.there (.here _ _))))))))))) | exact .there (.there (.there (.there (.there (.there (.there (.there (.there (.there (.there (.there (.here _ _)))))))))))) | exact .there (.there (.there (.there (.there (.there (.there (.there (.there (.there (.there (.there (.there (.here _ _)))))))))))))) rfl, h.cell (by first | exact .here _ _ | exact .there (.here _ _) | exact .there (.there (.here _ _)) | exact .there (.there (.there (.here _ _))) | exact .there (.there (.there (.there (.here _ _)))) | exact .there (.there (.there (.there (.there (.here _ _))))) | exact .there (.there (.there (.there (.there (.there (.here _ _)))))) | exact .there (.there (.there (.there (.there (.there (.there (.here _ _))))))) | exact .there (.there (.there (.there (.there (.there (.there (.there (.here _ _)))))))) | exact .there (.there (.there (.there (.there (.there (.there (.there (.there (.here _ _))))))))) | exact .there (.there (.there (.there (.there (.there (.there (.there (.there (.there (.here _ _)))))))))) | exact .there (.there (.there (.there (.there (.there (.there (.there (.there (.there (.there (.here _ _))))))))))) | exact .there (.there (.there (.there (.there (.there (.there (.there (.there (.there (.there (.there (.here _ _)))))))))))) | exact .there (.there (.there (.there (.there (.there (.there (.there (.there (.there (.there (.there (.there (.here _ _)))))))))))))) rfl, h.cell (by first | exact .here _ _ | exact .there (.here _ _) | exact .there (.there (.here _ _)) | exact .there (.there (.there (.here _ _))) | exact .there (.there (.there (.there (.here _ _)))) | exact .there (.there (.there (.there (.there (.here _ _))))) | exact .there (.there (.there (.there (.there (.there (.here _ _)))))) | exact .there (.there (.there (.there (.there (.there (.there (.here _ _))))))) | exact .there (.there (.there (.there (.there (.there (.there (.there (.here _ _)))))))) | exact .there (.there (.there (.there (.there (.there (.there (.there (.there (.here _ _))))))))) | exact .there (.there (.there (.there (.there (.there (.there (.there (.there (.there (.here _ _)))))))))) | exact .there (.there (.there (.there (.there (.there (.there (.there (.there (.there (.there (.here _ _))))))))))) | exact .there (.there (.there (.there (.there (.there (.there (.there (.there (.there (.there (.there (.here _ _)))))))))))) | exact .there (.there (.there (.there (.there (.there (.there (.there (.there (.there (.there (.there (.there (.here _ _)))))))))))))) rfl⟩
                    clear hK K
                    ((try simp only [Act.put]); (try simp only [List.setIfInBounds_toArray]); (try simp only [List.set_cons_succ]); (try simp only [List.set_cons_zero]))
                    refine takeL (i := 6) rfl (by kernel_rfl) (by kernel_rfl) (by kernel_rfl) (fun _ _ _ _ h => h) hHeld ?_ (Or.inl ⟨by rfl, ?_⟩) ?_
                    rotate_left
                    · intro W hW
                      (try dsimp only at hW)
                      first | (go_simp; done) | (go_simp; with_reducible rfl)
                    ((try simp only [Act.put]); (try simp only [List.setIfInBounds_toArray]); (try simp only [List.set_cons_succ]); (try simp only [List.set_cons_zero]))
                    refine takeL (i := 7) rfl (by kernel_rfl) (by kernel_rfl) (by kernel_rfl) (fun _ _ _ _ h => h) hHeld ?_ (Or.inl ⟨by rfl, ?_⟩) ?_
                    rotate_left
                    · intro W hW
                      (try dsimp only at hW)
                      first | (go_simp; done) | (go_simp; with_reducible rfl)
                    ((try simp only [Act.put]); (try simp only [List.setIfInBounds_toArray]); (try simp only [List.set_cons_succ]); (try simp only [List.set_cons_zero]))
                    refine takeL (i := 8) rfl (by kernel_rfl) (by kernel_rfl) (by kernel_rfl) (fun _ _ _ _ h => h) hHeld ?_ (Or.inl ⟨by rfl, ?_⟩) ?_
                    rotate_left
                    · intro W hW
                      (try dsimp only at hW)
                      first | (go_simp; done) | (go_simp; with_reducible rfl)
                    ((try simp only [Act.put]); (try simp only [List.setIfInBounds_toArray]); (try simp only [List.set_cons_succ]); (try simp only [List.set_cons_zero]))
                    refine takeL (i := 9) rfl (by kernel_rfl) (by kernel_rfl) (by kernel_rfl) (fun _ _ _ _ h => h) hHeld ?_ (Or.inl ⟨by rfl, ?_⟩) ?_
                    rotate_left
                    · intro W hW
                      (try dsimp only at hW)
                      first | (go_simp; done) | (go_simp; with_reducible rfl)
                    ((try simp only [Act.put]); (try simp only [List.setIfInBounds_toArray]); (try simp only [List.set_cons_succ]); (try simp only [List.set_cons_zero]))
                    refine takeL (i := 10) rfl (by kernel_rfl) (by kernel_rfl) (by kernel_rfl) (fun _ _ _ _ h => h) hHeld ?_ (Or.inl ⟨by rfl, ?_⟩) ?_
                    rotate_left
                    · intro W hW
                      (try dsimp only at hW)
                      first | (go_simp; done) | (go_simp; with_reducible rfl)
                    ((try simp only [Act.put]); (try simp only [List.setIfInBounds_toArray]); (try simp only [List.set_cons_succ]); (try simp only [List.set_cons_zero]))
                    refine takeL (i := 11) rfl (by kernel_rfl) (by kernel_rfl) (by kernel_rfl) (fun _ _ _ _ h => h) hHeld ?_ (Or.inl ⟨by rfl, ?_⟩) ?_
                    rotate_left
                    · intro W hW
                      (try dsimp only at hW)
                      first | (go_simp; done) | (go_simp; with_reducible rfl)
                    ((try simp only [Act.put]); (try simp only [List.setIfInBounds_toArray]); (try simp only [List.set_cons_succ]); (try simp only [List.set_cons_zero]))
                    refine takeL (i := 12) rfl (by kernel_rfl) (by kernel_rfl) (by kernel_rfl) (fun _ _ _ _ h => h) hHeld ?_ (Or.inl ⟨by rfl, ?_⟩) ?_
                    rotate_left
                    · intro W hW
                      (try dsimp only at hW)
                      first | (go_simp; done) | (go_simp; with_reducible rfl)
                    ((try simp only [Act.put]); (try simp only [List.setIfInBounds_toArray]); (try simp only [List.set_cons_succ]); (try simp only [List.set_cons_zero]))
                    refine takeL (i := 13) rfl (by kernel_rfl) (by kernel_rfl) (by kernel_rfl) (fun _ _ _ _ h => h) hHeld ?_ (Or.inl ⟨by rfl, ?_⟩) ?_
                    rotate_left
                    · intro W hW
                      (try dsimp only at hW)
                      first | (go_simp; done) | (go_simp; with_reducible rfl)
                    ((try simp only [Act.put]); (try simp only [List.setIfInBounds_toArray]); (try simp only [List.set_cons_succ]); (try simp only [List.set_cons_zero]))
                    refine takeL (i := 14) rfl (by kernel_rfl) (by kernel_rfl) (by kernel_rfl) (fun _ _ _ _ h => h) hHeld ?_ (Or.inl ⟨by rfl, ?_⟩) ?_
                    rotate_left
                    · intro W hW
                      (try dsimp only at hW)
                      first | (go_simp; done) | (go_simp; with_reducible rfl)
                    ((try simp only [Act.put]); (try simp only [List.setIfInBounds_toArray]); (try simp only [List.set_cons_succ]); (try simp only [List.set_cons_zero]))
                    refine takeL (i := 15) rfl (by kernel_rfl) (by kernel_rfl) (by kernel_rfl) (fun _ _ _ _ h => h) hHeld ?_ (Or.inl ⟨by rfl, ?_⟩) ?_
                    rotate_left
                    · intro W hW
                      (try dsimp only at hW)
                      first | (go_simp; done) | (go_simp; with_reducible rfl)
                    ((try simp only [Act.put]); (try simp only [List.setIfInBounds_toArray]); (try simp only [List.set_cons_succ]); (try simp only [List.set_cons_zero]))
                    refine takeL (i := 16) rfl (by kernel_rfl) (by kernel_rfl) (by kernel_rfl) (fun _ _ _ _ h => h) hHeld ?_ (Or.inl ⟨by rfl, ?_⟩) ?_
                    rotate_left
                    · intro W hW
                      (try dsimp only at hW)
                      first | (go_simp; done) | (go_simp; with_reducible rfl)
                    ((try simp only [Act.put]); (try simp only [List.setIfInBounds_toArray]); (try simp only [List.set_cons_succ]); (try simp only [List.set_cons_zero]))
                    refine takeL (i := 17) rfl (by kernel_rfl) (by kernel_rfl) (by kernel_rfl) (fun _ _ _ _ h => h) hHeld ?_ (Or.inl ⟨by rfl, ?_⟩) ?_
                    rotate_left
                    · intro W hW
                      (try dsimp only at hW)
                      first | (go_simp; done) | (go_simp; with_reducible rfl)
                    ((try simp only [Act.put]); (try simp only [List.setIfInBounds_toArray]); (try simp only [List.set_cons_succ]); (try simp only [List.set_cons_zero]))
                    refine takeL (i := 18) rfl (by kernel_rfl) (by kernel_rfl) (by kernel_rfl) (fun _ _ _ _ h => h) hHeld ?_ (Or.inl ⟨by rfl, ?_⟩) ?_
                    rotate_left
                    · intro W hW
                      (try dsimp only at hW)
                      first | (go_simp; done) | (go_simp; with_reducible rfl)
                    ((try simp only [Act.put]); (try simp only [List.setIfInBounds_toArray]); (try simp only [List.set_cons_succ]); (try simp only [List.set_cons_zero]))
                    refine callL (i := 19) rfl (by kernel_rfl) (fun K hK => ?_)
                    rw [if_pos (by rfl)]
                    go_simp
                    refine (pRefMissing H hok.out).mono ?_
                    rintro e w4 ⟨a2, c2, rfl, H4⟩
                    rw [hX.out]
                    rw [hX.out] at H4
                    clear H hHeld
                    have H := H4
                    clear H4
                    refine hK.out _ _ ?_ (fun hHeld => ?_)
                    · have h := H
                      unfold CAN at h
                      exact ⟨h.cell (by first | exact .here _ _ | exact .there (.here _ _) | exact .there (.there (.here _ _)) | exact .there (.there (.there (.here _ _))) | exact .there (.there (.there (.there (.here _ _)))) | exact .there (.there (.there (.there (.there (.here _ _))))) | exact .there (.there (.there (.there (.there (.there (.here _ _)))))) | exact .there (.there (.there (.there (.there (.there (.there (.here _ _))))))) | exact .there (.there (.there (.there (.there (.there (.there (.there (.here _ _)))))))) | exact .there (.there (.there (.there (.there (.there (.there (.there (.there (.here _ _))))))))) | exact .there (.there (.there (.there (.there (.there (.there (.there (.there (.there (.here _ _)))))))))) | exact .there (.there (.there (.there (.there (.there (.there (.there (.there (.there (.there (.here _ _))))))))))) | exact .there (.there (.there (.there (.there (.there (.there (.there (.there (.there (.there (.there (.here _ _)))))))))))) | exact .there (.there (.there (.there (.there (.there (.there (.there (.there (.there (.there (.there (.there (.here _ _)))))))))))))) rfl, h.cell (by first | exact .here _ _ | exact .there (.here _ _) | exact .there (.there (.here _ _)) | exact .there (.there (.there (.here _ _))) | exact .there (.there (.there (.there (.here _ _)))) | exact .there (.there (.there (.there (.there (.here _ _))))) | exact .there (.there (.there (.there (.there (.there (.here _ _)))))) | exact .there (.there (.there (.there (.there (.there (.there (.here _ _))))))) | exact .there (.there (.there (.there (.there (.there (.there (.there (.here _ _)))))))) | exact .there (.there (.there (.there (.there (.there (.there (.there (.there (.here _ _))))))))) | exact .there (.there (.there (.there (.there (.there (.there (.there (.there (.there (.here _ _)))))))))) | exact .there (.there (.there (.there (.there (.there (.there (.there (.there (.there (.there (.here _ _))))))))))) | exact .there (.there (.there (.there (.there (.there (.there (.there (.there (.there (.there (.there (.here _ _)))))))))))) | exact .there (.there (.there (.there (.there (.there (.there (.there (.there (.there (.there (.there (.there (.here _ _)))))))))))))) rfl, h.cell (by first | exact .here _ _ | exact .there (.here _ _) | exact .there (.there (.here _ _)) | exact .there (.there (.there (.here _ _))) | exact .there (.there (.there (.there (.here _ _)))) | exact .there (.there (.there (.there (.there (.here _ _))))) | exact .there (.there (.there (.there (.there (.there (.here _ _)))))) | exact .there (.there (.there (.there (.there (.there (.there (.here _ _))))))) | exact .there (.there (.there (.there (.there (.there (.there (.there (.here _ _)))))))) | exact .there (.there (.there (.there (.there (.there (.there (.there (.there (.here _ _))))))))) | exact .there (.there (.there (.there (.there (.there (.there (.there (.there (.there (.here _ _)))))))))) | exact .there (.there (.there (.there (.there (.there (.there (.there (.there (.there (.there (.here _ _))))))))))) | exact .there (.there (.there (.there (.there (.there (.there (.there (.there (.there (.there (.there (.here _ _)))))))))))) | exact .there (.there (.there (.there (.there (.there (.there (.there (.there (.there (.there (.there (.there (.here _ _)))))))))))))) rfl⟩
                    clear hK K
                    ((try simp only [Act.put]); (try simp only [List.setIfInBounds_toArray]); (try simp only [List.set_cons_succ]); (try simp only [List.set_cons_zero]))
                    refine callL (i := 20) rfl (by kernel_rfl) (fun K hK => ?_)
                    rw [if_pos (by rfl)]
                    go_simp
                    refine (ints_c _ _ X X _ _ _ hXl (OwnK.rdI (H.ownOf (show Pull _ (.own 3 1 (.slice a1 X.length c1) X.length (iv X)) _ from by unfold CAN; exact (by first | exact .here _ _ | exact .there (.here _ _) | exact .there (.there (.here _ _)) | exact .there (.there (.there (.here _ _))) | exact .there (.there (.there (.there (.here _ _)))) | exact .there (.there (.there (.there (.there (.here _ _))))) | exact .there (.there (.there (.there (.there (.there (.here _ _)))))) | exact .there (.there (.there (.there (.there (.there (.there (.here _ _))))))) | exact .there (.there (.there (.there (.there (.there (.there (.there (.here _ _)))))))) | exact .there (.there (.there (.there (.there (.there (.there (.there (.there (.here _ _))))))))) | exact .there (.there (.there (.there (.there (.there (.there (.there (.there (.there (.here _ _)))))))))) | exact .there (.there (.there (.there (.there (.there (.there (.there (.there (.there (.there (.here _ _))))))))))) | exact .there (.there (.there (.there (.there (.there (.there (.there (.there (.there (.there (.there (.here _ _)))))))))))) | exact .there (.there (.there (.there (.there (.there (.there (.there (.there (.there (.there (.there (.there (.here _ _))))))))))))))))).2.2 (OwnK.rdI (H.ownOf (show Pull _ (.own 3 1 (.slice a2 X.length c2) X.length (iv X)) _ from by unfold CAN; exact (by first | exact .here _ _ | exact .there (.here _ _) | exact .there (.there (.here _ _)) | exact .there (.there (.there (.here _ _))) | exact .there (.there (.there (.there (.here _ _)))) | exact .there (.there (.there (.there (.there (.here _ _))))) | exact .there (.there (.there (.there (.there (.there (.here _ _)))))) | exact .there (.there (.there (.there (.there (.there (.there (.here _ _))))))) | exact .there (.there (.there (.there (.there (.there (.there (.there (.here _ _)))))))) | exact .there (.there (.there (.there (.there (.there (.there (.there (.there (.here _ _))))))))) | exact .there (.there (.there (.there (.there (.there (.there (.there (.there (.there (.here _ _)))))))))) | exact .there (.there (.there (.there (.there (.there (.there (.there (.there (.there (.there (.here _ _))))))))))) | exact .there (.there (.there (.there (.there (.there (.there (.there (.there (.there (.there (.there (.here _ _)))))))))))) | exact .there (.there (.there (.there (.there (.there (.there (.there (.there (.there (.there (.there (.there (.here _ _))))))))))))))))).2.2).mono ?_
                    rintro e w5 ⟨rfl, nd, rfl⟩
                    rw [show decide (X = X) = true by simp]
                    have H5 := H.drewN nd
                    generalize w4.drewN nd = w5 at *
                    clear H hHeld
                    have H := H5
                    clear H5
                    refine hK.out _ _ ?_ (fun hHeld => ?_)
                    · have h := H
                      unfold CAN at h
                      exact ⟨h.cell (by first | exact .here _ _ | exact .there (.here _ _) | exact .there (.there (.here _ _)) | exact .there (.there (.there (.here _ _))) | exact .there (.there (.there (.there (.here _ _)))) | exact .there (.there (.there (.there (.there (.here _ _))))) | exact .there (.there (.there (.there (.there (.there (.here _ _)))))) | exact .there (.there (.there (.there (.there (.there (.there (.here _ _))))))) | exact .there (.there (.there (.there (.there (.there (.there (.there (.here _ _)))))))) | exact .there (.there (.there (.there (.there (.there (.there (.there (.there (.here _ _))))))))) | exact .there (.there (.there (.there (.there (.there (.there (.there (.there (.there (.here _ _)))))))))) | exact .there (.there (.there (.there (.there (.there (.there (.there (.there (.there (.there (.here _ _))))))))))) | exact .there (.there (.there (.there (.there (.there (.there (.there (.there (.there (.there (.there (.here _ _)))))))))))) | exact .there (.there (.there (.there (.there (.there (.there (.there (.there (.there (.there (.there (.there (.here _ _)))))))))))))) rfl, h.cell (by first | exact .here _ _ | exact .there (.here _ _) | exact .there (.there (.here _ _)) | exact .there (.there (.there (.here _ _))) | exact .there (.there (.there (.there (.here _ _)))) | exact .there (.there (.there (.there (.there (.here _ _))))) | exact .there (.there (.there (.there (.there (.there (.here _ _)))))) | exact .there (.there (.there (.there (.there (.there (.there (.here _ _))))))) | exact .there (.there (.there (.there (.there (.there (.there (.there (.here _ _)))))))) | exact .there (.there (.there (.there (.there (.there (.there (.there (.there (.here _ _))))))))) | exact .there (.there (.there (.there (.there (.there (.there (.there (.there (.there (.here _ _)))))))))) | exact .there (.there (.there (.there (.there (.there (.there (.there (.there (.there (.there (.here _ _))))))))))) | exact .there (.there (.there (.there (.there (.there (.there (.there (.there (.there (.there (.there (.here _ _)))))))))))) | exact .there (.there (.there (.there (.there (.there (.there (.there (.there (.there (.there (.there (.there (.here _ _)))))))))))))) rfl, h.cell (by first | exact .here _ _ | exact .there (.here _ _) | exact .there (.there (.here _ _)) | exact .there (.there (.there (.here _ _))) | exact .there (.there (.there (.there (.here _ _)))) | exact .there (.there (.there (.there (.there (.here _ _))))) | exact .there (.there (.there (.there (.there (.there (.here _ _)))))) | exact .there (.there (.there (.there (.there (.there (.there (.here _ _))))))) | exact .there (.there (.there (.there (.there (.there (.there (.there (.here _ _)))))))) | exact .there (.there (.there (.there (.there (.there (.there (.there (.there (.here _ _))))))))) | exact .there (.there (.there (.there (.there (.there (.there (.there (.there (.there (.here _ _)))))))))) | exact .there (.there (.there (.there (.there (.there (.there (.there (.there (.there (.there (.here _ _))))))))))) | exact .there (.there (.there (.there (.there (.there (.there (.there (.there (.there (.there (.there (.here _ _)))))))))))) | exact .there (.there (.there (.there (.there (.there (.there (.there (.there (.there (.there (.there (.there (.here _ _)))))))))))))) rfl⟩
                    clear hK K
                    ((try simp only [Act.put]); (try simp only [List.setIfInBounds_toArray]); (try simp only [List.set_cons_succ]); (try simp only [List.set_cons_zero]))
                    refine takeL (i := 21) rfl (by kernel_rfl) (by kernel_rfl) (by kernel_rfl) (fun _ _ _ _ h => h) hHeld ?_ (Or.inl ⟨by rfl, ?_⟩) ?_
                    rotate_left
                    · intro W hW
                      (try dsimp only at hW)
                      first | (go_simp; done) | (go_simp; with_reducible rfl)
                    ((try simp only [Act.put]); (try simp only [List.setIfInBounds_toArray]); (try simp only [List.set_cons_succ]); (try simp only [List.set_cons_zero]))
                    refine takeL (i := 22) rfl (by kernel_rfl) (by kernel_rfl) (by kernel_rfl) (fun _ _ _ _ h => h) hHeld ?_ (Or.inl ⟨by rfl, ?_⟩) ?_
                    rotate_left
                    · intro W hW
                      (try dsimp only at hW)
                      first | (go_simp; done) | (go_simp; with_reducible rfl)
                    ((try simp only [Act.put]); (try simp only [List.setIfInBounds_toArray]); (try simp only [List.set_cons_succ]); (try simp only [List.set_cons_zero]))
                    refine takeL (i := 23) rfl (by kernel_rfl) (by kernel_rfl) (by kernel_rfl) (fun _ _ _ _ h => h) hHeld ?_ (Or.inl ⟨by rfl, ?_⟩) ?_
                    rotate_left
                    · intro W hW
                      (try dsimp only at hW)
                      first | (go_simp; done) | (go_simp; with_reducible rfl)
                    ((try simp only [Act.put]); (try simp only [List.setIfInBounds_toArray]); (try simp only [List.set_cons_succ]); (try simp only [List.set_cons_zero]))
                    refine takeL (i := 24) rfl (by kernel_rfl) (by kernel_rfl) (by kernel_rfl) (fun _ _ _ _ h => h) hHeld ?_ (Or.inl ⟨by rfl, ?_⟩) ?_
                    rotate_left
                    · intro W hW
                      (try dsimp only at hW)
                      first | (go_simp; done) | (go_simp; with_reducible rfl)
                    ((try simp only [Act.put]); (try simp only [List.setIfInBounds_toArray]); (try simp only [List.set_cons_succ]); (try simp only [List.set_cons_zero]))
                    refine takeL (i := 25) rfl (by kernel_rfl) (by kernel_rfl) (by kernel_rfl) (fun _ _ _ _ h => h) hHeld ?_ (Or.inl ⟨by rfl, ?_⟩) ?_
                    rotate_left
                    · intro W hW
                      (try dsimp only at hW)
                      first | (go_simp; done) | (go_simp; with_reducible rfl)
                    ((try simp only [Act.put]); (try simp only [List.setIfInBounds_toArray]); (try simp only [List.set_cons_succ]); (try simp only [List.set_cons_zero]))
                    refine takeL (i := 26) rfl (by kernel_rfl) (by kernel_rfl) (by kernel_rfl) (fun _ _ _ _ h => h) hHeld ?_ (Or.inl ⟨by rfl, ?_⟩) ?_
                    rotate_left
                    · intro W hW
                      (try dsimp only at hW)
                      first | (go_simp; done) | (go_simp; with_reducible rfl)
                    ((try simp only [Act.put]); (try simp only [List.setIfInBounds_toArray]); (try simp only [List.set_cons_succ]); (try simp only [List.set_cons_zero]))
                    refine takeL (i := 27) rfl (by kernel_rfl) (by kernel_rfl) (by kernel_rfl) (fun _ _ _ _ h => h) hHeld ?_ (Or.inl ⟨by rfl, ?_⟩) ?_
                    rotate_left
                    · intro W hW
                      (try dsimp only at hW)
                      first | (go_simp; done) | (go_simp; with_reducible rfl)
                    ((try simp only [Act.put]); (try simp only [List.setIfInBounds_toArray]); (try simp only [List.set_cons_succ]); (try simp only [List.set_cons_zero]))
                    refine takeL (i := 28) rfl (by kernel_rfl) (by kernel_rfl) (by kernel_rfl) (fun _ _ _ _ h => h) hHeld ?_ (Or.inl ⟨by rfl, ?_⟩) ?_
                    rotate_left
                    · intro W hW
                      (try dsimp only at hW)
                      first | (go_simp; done) | (go_simp; with_reducible rfl)
                    ((try simp only [Act.put]); (try simp only [List.setIfInBounds_toArray]); (try simp only [List.set_cons_succ]); (try simp only [List.set_cons_zero]))
                    refine takeL (i := 30) rfl (by kernel_rfl) (by kernel_rfl) (by kernel_rfl) (fun _ _ _ _ h => h) hHeld ?_ (Or.inl ⟨by rfl, ?_⟩) ?_
                    rotate_left
                    · intro W hW
                      (try dsimp only at hW)
                      first | (go_simp; done) | (go_simp; with_reducible rfl)
                    ((try simp only [Act.put]); (try simp only [List.setIfInBounds_toArray]); (try simp only [List.set_cons_succ]); (try simp only [List.set_cons_zero]))
                    refine takeL (i := 31) rfl (by kernel_rfl) (by kernel_rfl) (by kernel_rfl) (fun _ _ _ _ h => h) hHeld ?_ (Or.inl ⟨by rfl, ?_⟩) ?_
                    rotate_left
                    · intro W hW
                      (try dsimp only at hW)
                      first | (go_simp; done) | (go_simp; with_reducible rfl)
                    ((try simp only [Act.put]); (try simp only [List.setIfInBounds_toArray]); (try simp only [List.set_cons_succ]); (try simp only [List.set_cons_zero]))
                    refine takeL (i := 32) rfl (by kernel_rfl) (by kernel_rfl) (by kernel_rfl) (fun _ _ _ _ h => h) hHeld ?_ (Or.inl ⟨by rfl, ?_⟩) ?_
                    rotate_left
                    · intro W hW
                      (try dsimp only at hW)
                      first | (go_simp; done) | (go_simp; with_reducible rfl)
                    ((try simp only [Act.put]); (try simp only [List.setIfInBounds_toArray]); (try simp only [List.set_cons_succ]); (try simp only [List.set_cons_zero]))
                    refine takeL (i := 33) rfl (by kernel_rfl) (by kernel_rfl) (by kernel_rfl) (fun _ _ _ _ h => h) hHeld ?_ (Or.inl ⟨by rfl, ?_⟩) ?_
                    rotate_left
                    · intro W hW
                      (try dsimp only at hW)
                      first | (go_simp; done) | (go_simp; with_reducible rfl)
                    ((try simp only [Act.put]); (try simp only [List.setIfInBounds_toArray]); (try simp only [List.set_cons_succ]); (try simp only [List.set_cons_zero]))
                    refine takeL (i := 34) rfl (by kernel_rfl) (by kernel_rfl) (by kernel_rfl) (fun _ _ _ _ h => h) hHeld ?_ (Or.inl ⟨by rfl, ?_⟩) ?_
                    rotate_left
                    · intro W hW
                      (try dsimp only at hW)
                      first | (go_simp; done) | (go_simp; with_reducible rfl)
                    ((try simp only [Act.put]); (try simp only [List.setIfInBounds_toArray]); (try simp only [List.set_cons_succ]); (try simp only [List.set_cons_zero]))
                    refine callL (i := 29) rfl (by kernel_rfl) (fun K hK => ?_)
                    rw [if_pos (by rfl)]
                    go_simp
                    refine (pHas H hok.out o2 o3).mono ?_
                    rintro e w' ⟨rfl, rfl⟩
                    clear hHeld
                    refine hK.out _ _ ?_ (fun hHeld => ?_)
                    · have h := H
                      unfold CAN at h
                      exact ⟨h.cell (by first | exact .here _ _ | exact .there (.here _ _) | exact .there (.there (.here _ _)) | exact .there (.there (.there (.here _ _))) | exact .there (.there (.there (.there (.here _ _)))) | exact .there (.there (.there (.there (.there (.here _ _))))) | exact .there (.there (.there (.there (.there (.there (.here _ _)))))) | exact .there (.there (.there (.there (.there (.there (.there (.here _ _))))))) | exact .there (.there (.there (.there (.there (.there (.there (.there (.here _ _)))))))) | exact .there (.there (.there (.there (.there (.there (.there (.there (.there (.here _ _))))))))) | exact .there (.there (.there (.there (.there (.there (.there (.there (.there (.there (.here _ _)))))))))) | exact .there (.there (.there (.there (.there (.there (.there (.there (.there (.there (.there (.here _ _))))))))))) | exact .there (.there (.there (.there (.there (.there (.there (.there (.there (.there (.there (.there (.here _ _)))))))))))) | exact .there (.there (.there (.there (.there (.there (.there (.there (.there (.there (.there (.there (.there (.here _ _)))))))))))))) rfl, h.cell (by first | exact .here _ _ | exact .there (.here _ _) | exact .there (.there (.here _ _)) | exact .there (.there (.there (.here _ _))) | exact .there (.there (.there (.there (.here _ _)))) | exact .there (.there (.there (.there (.there (.here _ _))))) | exact .there (.there (.there (.there (.there (.there (.here _ _)))))) | exact .there (.there (.there (.there (.there (.there (.there (.here _ _))))))) | exact .there (.there (.there (.there (.there (.there (.there (.there (.here _ _)))))))) | exact .there (.there (.there (.there (.there (.there (.there (.there (.there (.here _ _))))))))) | exact .there (.there (.there (.there (.there (.there (.there (.there (.there (.there (.here _ _)))))))))) | exact .there (.there (.there (.there (.there (.there (.there (.there (.there (.there (.there (.here _ _))))))))))) | exact .there (.there (.there (.there (.there (.there (.there (.there (.there (.there (.there (.there (.here _ _)))))))))))) | exact .there (.there (.there (.there (.there (.there (.there (.there (.there (.there (.there (.there (.there (.here _ _)))))))))))))) rfl, h.cell (by first | exact .here _ _ | exact .there (.here _ _) | exact .there (.there (.here _ _)) | exact .there (.there (.there (.here _ _))) | exact .there (.there (.there (.there (.here _ _)))) | exact .there (.there (.there (.there (.there (.here _ _))))) | exact .there (.there (.there (.there (.there (.there (.here _ _)))))) | exact .there (.there (.there (.there (.there (.there (.there (.here _ _))))))) | exact .there (.there (.there (.there (.there (.there (.there (.there (.here _ _)))))))) | exact .there (.there (.there (.there (.there (.there (.there (.there (.there (.here _ _))))))))) | exact .there (.there (.there (.there (.there (.there (.there (.there (.there (.there (.here _ _)))))))))) | exact .there (.there (.there (.there (.there (.there (.there (.there (.there (.there (.there (.here _ _))))))))))) | exact .there (.there (.there (.there (.there (.there (.there (.there (.there (.there (.there (.there (.here _ _)))))))))))) | exact .there (.there (.there (.there (.there (.there (.there (.there (.there (.there (.there (.there (.there (.here _ _)))))))))))))) rfl⟩
                    clear hK K
                    ((try simp only [Act.put]); (try simp only [List.setIfInBounds_toArray]); (try simp only [List.set_cons_succ]); (try simp only [List.set_cons_zero]))
                    refine callL (i := 35) rfl (by kernel_rfl) (fun K hK => ?_)
                    rw [if_pos (by rfl)]
                    go_simp
                    refine (pRefHas H hok.out o2 o3).mono ?_
                    rintro e w' ⟨rfl, rfl⟩
                    clear hHeld
                    refine hK.out _ _ ?_ (fun hHeld => ?_)
                    · have h := H
                      unfold CAN at h
                      exact ⟨h.cell (by first | exact .here _ _ | exact .there (.here _ _) | exact .there (.there (.here _ _)) | exact .there (.there (.there (.here _ _))) | exact .there (.there (.there (.there (.here _ _)))) | exact .there (.there (.there (.there (.there (.here _ _))))) | exact .there (.there (.there (.there (.there (.there (.here _ _)))))) | exact .there (.there (.there (.there (.there (.there (.there (.here _ _))))))) | exact .there (.there (.there (.there (.there (.there (.there (.there (.here _ _)))))))) | exact .there (.there (.there (.there (.there (.there (.there (.there (.there (.here _ _))))))))) | exact .there (.there (.there (.there (.there (.there (.there (.there (.there (.there (.here _ _)))))))))) | exact .there (.there (.there (.there (.there (.there (.there (.there (.there (.there (.there (.here _ _))))))))))) | exact .there (.there (.there (.there (.there (.there (.there (.there (.there (.there (.there (.there (.here _ _)))))))))))) | exact .there (.there (.there (.there (.there (.there (.there (.there (.there (.there (.there (.there (.there (.here _ _)))))))))))))) rfl, h.cell (by first | exact .here _ _ | exact .there (.here _ _) | exact .there (.there (.here _ _)) | exact .there (.there (.there (.here _ _))) | exact .there (.there (.there (.there (.here _ _)))) | exact .there (.there (.there (.there (.there (.here _ _))))) | exact .there (.there (.there (.there (.there (.there (.here _ _)))))) | exact .there (.there (.there (.there (.there (.there (.there (.here _ _))))))) | exact .there (.there (.there (.there (.there (.there (.there (.there (.here _ _)))))))) | exact .there (.there (.there (.there (.there (.there (.there (.there (.there (.here _ _))))))))) | exact .there (.there (.there (.there (.there (.there (.there (.there (.there (.there (.here _ _)))))))))) | exact .there (.there (.there (.there (.there (.there (.there (.there (.there (.there (.there (.here _ _))))))))))) | exact .there (.there (.there (.there (.there (.there (.there (.there (.there (.there (.there (.there (.here _ _)))))))))))) | exact .there (.there (.there (.there (.there (.there (.there (.there (.there (.there (.there (.there (.there (.here _ _)))))))))))))) rfl, h.cell (by first | exact .here _ _ | exact .there (.here _ _) | exact .there (.there (.here _ _)) | exact .there (.there (.there (.here _ _))) | exact .there (.there (.there (.there (.here _ _)))) | exact .there (.there (.there (.there (.there (.here _ _))))) | exact .there (.there (.there (.there (.there (.there (.here _ _)))))) | exact .there (.there (.there (.there (.there (.there (.there (.here _ _))))))) | exact .there (.there (.there (.there (.there (.there (.there (.there (.here _ _)))))))) | exact .there (.there (.there (.there (.there (.there (.there (.there (.there (.here _ _))))))))) | exact .there (.there (.there (.there (.there (.there (.there (.there (.there (.there (.here _ _)))))))))) | exact .there (.there (.there (.there (.there (.there (.there (.there (.there (.there (.there (.here _ _))))))))))) | exact .there (.there (.there (.there (.there (.there (.there (.there (.there (.there (.there (.there (.here _ _)))))))))))) | exact .there (.there (.there (.there (.there (.there (.there (.there (.there (.there (.there (.there (.there (.here _ _)))))))))))))) rfl⟩
                    clear hK K
                    ((try simp only [Act.put]); (try simp only [List.setIfInBounds_toArray]); (try simp only [List.set_cons_succ]); (try simp only [List.set_cons_zero]))
                    refine takeL (i := 36) rfl (by kernel_rfl) (by kernel_rfl) (by kernel_rfl) (fun _ _ _ _ h => h) hHeld ?_ (Or.inl ⟨by rfl, ?_⟩) ?_
                    rotate_left
                    · intro W hW
                      (try dsimp only at hW)
                      first | (go_simp; done) | (go_simp; with_reducible rfl)
                    ((try simp only [Act.put]); (try simp only [List.setIfInBounds_toArray]); (try simp only [List.set_cons_succ]); (try simp only [List.set_cons_zero]))
                    refine takeL (i := 37) rfl (by kernel_rfl) (by kernel_rfl) (by kernel_rfl) (fun _ _ _ _ h => h) hHeld ?_ (Or.inl ⟨by rfl, ?_⟩) ?_
                    rotate_left
                    · intro W hW
                      (try dsimp only at hW)
                      first | (go_simp; done) | (go_simp; with_reducible rfl)
                    ((try simp only [Act.put]); (try simp only [List.setIfInBounds_toArray]); (try simp only [List.set_cons_succ]); (try simp only [List.set_cons_zero]))
                    refine wpAnyH_done (by kernel_rfl) ?_ _
                    have H9 := Lib.hid (H.re (L' := CAN x p m f ps f ps [.blk q2 [.slice sa j sc, .int .i64 x.fr, .int .i64 x.N] 45]) (.step (.here _ _) (.step (.here _ _) (.step (.here _ _) (.drop (.drop (.drop (.same _))))))))
                    clear H hHeld
                    go_wp2_with fail
                    clear hb0
                    go_roundw
                    case rel => exact ⟨k + 1, p, m, f, ps, by omega, by go_num, rfl, hok, H9.out⟩
                    case measure => (simp [intOf]; try omega)
                    -- ENDREG35
                · obtain rfl : k = len := by omega
                  go_wp2_with fail
                  go_ret
                  exact ⟨rfl, hkp⟩
end Go.Proofs.Ytejgkehcplajhaa
