/- mullionref18.Decode. -/
import Derived.Test.YtilpkfgdlehmpaaDec
namespace Go.Proofs.Ytilpkfgdlehmpaa
open Go.RowKit Go.Shelf
set_option linter.unusedVariables false

section
variable {a : Option Addr} {c : Nat} {B : List Int} {v : Value} {n : Nat} {xs : List Value} {r : Nat} {st : RdSt18} {L : List Pc} {w : World}
theorem RfrAt.set {b o : Nat} {cs : List Value} {t : TypeId} {u : Value} (H : RfrAt a c B v n xs r st (.blk b cs t :: L) w) : RfrAt a c B v n xs r st (.blk b (cs.set o u) t :: L) (w.setCell ⟨b, o, none⟩ u) := by
  obtain ⟨k, h, ok⟩ := H
  exact ⟨k, ((h.pull (.there (.there (.here _ _)))).setCell o u).re (.step (.there (.here _ _)) (.step (.there (.here _ _)) (.same _))), ok⟩
theorem RfrAt.re {L' : List Pc} (H : RfrAt a c B v n xs r st L w) (h : Re L L') : RfrAt a c B v n xs r st L' w := by
  obtain ⟨k, hs, ok⟩ := H
  exact ⟨k, hs.re (.step (.here _ _) (.step (.here _ _) h)), ok⟩
theorem RfrAt.sl (H : RfrAt a c B v n xs r st L w) : SL w L := by
  obtain ⟨k, h, ok⟩ := H
  exact h.tail.tail
theorem RfrAt.alloc (H : RfrAt a c B v n xs r st L w) (cs : List Value) (t : TypeId) : RfrAt a c B v n xs r st (.blk w.heap.size cs t :: L) (w.alloc (.cells cs.toArray t)) := by
  obtain ⟨k, h, ok⟩ := H
  exact ⟨k, (h.alloc cs t).re (.step (.there (.here _ _)) (.step (.there (.here _ _)) (.same _))), ok⟩
end
theorem rdec_results {W : World} {Q : Nat} {g : Gm} {a : Option Addr} {m c : Nat} {E : Int} {L : List Pc} (H : SL W (.blk Q (gmC g (.slice a m c)) 25 :: L)) {tmps : Array Value}
    (h2 : tmps.getD 2 undef = .pointer (some ⟨Q, 0, none⟩)) (h3 : tmps.getD 3 undef = .int .i64 E) :
    (results Try.f5 tmps).run Try.prog W = .ok (.tuple #[gmV g (.slice a m c), .int .i64 E]) W := by
  unfold gmC at H
  (have C := H.cells; dsimp only [cellsOf, Pc.cells, cellsFrom, Nat.zero_add, Nat.reduceAdd] at C; (try simp only [true_and] at C); (try simp only [and_true] at C))
  have h2' : tmps[2]?.getD undef = .pointer (some ⟨Q, 0, none⟩) := by simpa using h2
  have h3' : tmps[3]?.getD undef = .int .i64 E := by simpa using h3
  simp [results, Try.results5, go_sem, C, h2', h3', gmV]
theorem decR_badK {bs : List Int} (h : openZ bs = 0) (h1 : ¬ (endK (readK (openB bs)).2 ∧ mayK (readK (openB bs)).1)) : decR bs = (Gm0, 180) := by
  unfold decR decK
  rw [if_pos h, if_neg h1]
theorem decR_goodK {bs : List Int} (h : openZ bs = 0) (h1 : endK (readK (openB bs)).2 ∧ mayK (readK (openB bs)).1) : decR bs = ((readK (openB bs)).1, 0) := by
  unfold decR decK
  rw [if_pos h, if_pos h1]

set_option maxRecDepth 100000 in
set_option maxHeartbeats 8000000 in
theorem rdec_c {a : Option Addr} {n c : Nat} {bs : List Int} {w : World} {L : List Pc} (H : SL w L) (hl : bs.length = n) (hn : n ≤ 6000) (hc : n ≤ c) (hcm : c ≤ 9223372036854775807) (hb : RdB w a bs) (hy : ∀ x ∈ bs, byteK x) :
    Calls Try.prog 5 #[.slice a n c] w (DecPost bs L) := by
  have H1 := H.alloc Z9 25
  have hop := Lib.hid (ropn_c H1 hl hn hc hcm (hb.no ((Kp.refl no w).alloc _)) hy)
  have hyo := openB_bytes bs
  have hlo : (openB bs).length ≤ 6000 := by have := openB_le bs; omega
  have hyo' := Lib.hid hyo
  have hcm' := Lib.hid hcm
  clear H H1 hb hy hyo hcm hl
  go_enter Try.func5, Try.ntmps5
  go_wp2_with fail
  generalize w.alloc (.cells Z9.toArray 25) = w1 at *
  generalize w.heap.size = Q at *
  refine hop.out.mono ?_
  rintro e w2 ⟨a2, c2, rfl, H2⟩
  clear hop
  by_cases hz : openZ bs = 0
  · rw [hz]
    have hK : OwnK w2 0 5 1 (.slice a2 (openB bs).length c2) (openB bs).length (bv (openB bs)) := H2.head
    have hrf0 : Hid (∀ V b M, SL V (.blk b [.slice a2 (openB bs).length c2, .int .i64 0, .bool false] 55 :: .own 5 1 (.slice a2 (openB bs).length c2) (openB bs).length (bv (openB bs)) :: M) → RfrAt a2 c2 (openB bs) (.slice a2 (openB bs).length c2) (openB bs).length (bv (openB bs)) b (openB bs, false) M V) := Lib.hid (by
      obtain ⟨a3, c3, e3, h3, -, h4, -⟩ := OwnK.slice hK
      simp only [Value.slice.injEq] at e3
      obtain ⟨rfl, -, rfl⟩ := e3
      exact fun V b M h => ⟨0, h, ⟨h3, h4⟩, hlo, Nat.zero_le _, rfl, hyo'.out, fun V M hV i hi => (OwnK.rdB (show OwnK V 0 _ 1 (.slice _ _ _) _ (bv (openB bs)) from hV.head)).2.2.cell hi⟩)
    have hok := Lib.hid (fun hk => readC_ok hyo'.out |> fun h => (readC_eq (bs := openB bs) hk (upK_le (st := (openB bs, false)) (m := 3) (by omega) hyo'.out).2) ▸ h)
    have hbs := Lib.hid (fun h => decR_badK hz h)
    have hgs := Lib.hid (fun h => decR_goodK hz h)
    have hby0 : Hid (∀ c ∈ ((openB bs, false) : RdSt18).1, byteK c) := hyo'
    have hH2 := Lib.hid H2
    clear H2 hK hz hlo
    generalize openB bs = ob at *
    unfold readK at hok hbs hgs
    dsimp only at hok hbs hgs
    obtain ⟨K0, hK0⟩ : ∃ K0, upK (ob, false) 3 = K0 := ⟨_, rfl⟩
    have hk3 := upK_le (st := (ob, false)) (m := 3) (by omega) hby0.out
    rw [hK0] at hok hbs hgs hk3
    have hK0' := Lib.hid hK0
    clear hK0
    rw [show (Value.slice a2 ob.length c2) = .slice a2 ob.length c2 from rfl] at hrf0
    go_wp2_with fail
    have H3 := (hH2.out.alloc [.slice a2 ob.length c2, .int .i64 0, .bool false] 55).re (.step (.here _ _) (.step (.here _ _) (.same _)))
    have H4 := Lib.hid (((hrf0.out _ _ _ H3).alloc [.int .i64 0, .int .i64 0, .int .i64 0, .int .u64 0, .int .i64 0, .int .u64 0, .int .u64 0, .int .u64 0, .slice none 0 0] 25))
    clear H3 hrf0 hH2
    rw [World.size_alloc] at H4
    generalize (w2.alloc (.cells [Value.slice a2 ob.length c2, .int .i64 0, .bool false].toArray 55)).alloc (.cells [Value.int .i64 0, .int .i64 0, .int .i64 0, .int .u64 0, .int .i64 0, .int .u64 0, .int .u64 0, .int .u64 0, .slice none 0 0].toArray 25) = w3 at *
    generalize w2.heap.size + 1 = G at *
    generalize w2.heap.size = r at *
    obtain ⟨F1, hF1⟩ : ∃ F1, upK K0.2 63 = F1 := ⟨_, rfl⟩
    rw [hF1] at hok hbs hgs
    have hF1' := Lib.hid hF1
    clear hF1
    obtain ⟨T1, hT1⟩ : ∃ T1, upK F1.2 63 = T1 := ⟨_, rfl⟩
    rw [hT1] at hok hbs hgs
    have hT1' := Lib.hid hT1
    clear hT1
    obtain ⟨N1, hN1⟩ : ∃ N1, upK T1.2 most64 = N1 := ⟨_, rfl⟩
    rw [hN1] at hok hbs hgs
    have hN1' := Lib.hid hN1
    clear hN1
    obtain ⟨B1, hB1⟩ : ∃ B1, upK N1.2 63 = B1 := ⟨_, rfl⟩
    rw [hB1] at hok hbs hgs
    have hB1' := Lib.hid hB1
    clear hB1
    have cc := Lib.hid (rsmall_c H4.out (m := 3) (by omega))
    rw [hK0'.out] at cc
    clear H4
    unfold ptrV at cc
    refine cc.out.mono ?_
    rintro e wa ⟨rfl, Ha⟩
    clear cc
    have g0 := Ha.sl.cell (b := G) (o := 2) (.here _ _) rfl
    have f0 := Ha.sl.free (b := G) (.here _ _) 2
    have H5 := Lib.hid (Ha.set (o := 2) (u := .int .i64 K0.1))
    clear Ha
    go_wp2_with fail
    generalize wa.setCell ⟨G, 2, none⟩ (.int .i64 K0.1) = w5 at *
    clear g0 f0
    have cc := Lib.hid (rsmall_c H5.out (m := 63) (by omega))
    rw [hF1'.out] at cc
    clear H5
    unfold ptrV at cc
    refine cc.out.mono ?_
    rintro e wa ⟨rfl, Ha⟩
    clear cc
    have g0 := Ha.sl.cell (b := G) (o := 0) (.here _ _) rfl
    have f0 := Ha.sl.free (b := G) (.here _ _) 0
    have H6 := Lib.hid (Ha.set (o := 0) (u := .int .i64 F1.1))
    clear Ha
    go_wp2_with fail
    generalize wa.setCell ⟨G, 0, none⟩ (.int .i64 F1.1) = w6 at *
    clear g0 f0
    have cc := Lib.hid (rsmall_c H6.out (m := 63) (by omega))
    rw [hT1'.out] at cc
    clear H6
    unfold ptrV at cc
    refine cc.out.mono ?_
    rintro e wa ⟨rfl, Ha⟩
    clear cc
    have g0 := Ha.sl.cell (b := G) (o := 1) (.here _ _) rfl
    have f0 := Ha.sl.free (b := G) (.here _ _) 1
    have H7 := Lib.hid (Ha.set (o := 1) (u := .int .i64 T1.1))
    clear Ha
    go_wp2_with fail
    generalize wa.setCell ⟨G, 1, none⟩ (.int .i64 T1.1) = w7 at *
    clear g0 f0
    have cc := Lib.hid (ruint_c H7.out)
    rw [hN1'.out] at cc
    clear H7
    unfold ptrV at cc
    refine cc.out.mono ?_
    rintro e wa ⟨rfl, Ha⟩
    clear cc
    have g0 := Ha.sl.cell (b := G) (o := 3) (.here _ _) rfl
    have f0 := Ha.sl.free (b := G) (.here _ _) 3
    have H8 := Lib.hid (Ha.set (o := 3) (u := .int .u64 N1.1))
    clear Ha
    go_wp2_with fail
    generalize wa.setCell ⟨G, 3, none⟩ (.int .u64 N1.1) = w8 at *
    clear g0 f0
    have cc := Lib.hid (rsmall_c H8.out (m := 63) (by omega))
    rw [hB1'.out] at cc
    clear H8
    unfold ptrV at cc
    refine cc.out.mono ?_
    rintro e wa ⟨rfl, Ha⟩
    clear cc
    have g0 := Ha.sl.cell (b := G) (o := 4) (.here _ _) rfl
    have g2 := Ha.sl.cell (b := G) (o := 2) (.here _ _) rfl
    have f0 := Ha.sl.free (b := G) (.here _ _) 4
    have H9 := Lib.hid (Ha.set (o := 4) (u := .int .i64 B1.1))
    clear Ha
    clear hok
    obtain ⟨Q1, hQ1⟩ : ∃ Q1, (if K0.1 = 2 then upK B1.2 most64 else (0, B1.2)) = Q1 := ⟨_, rfl⟩
    rw [hQ1] at hbs hgs
    obtain ⟨A1, hA1⟩ : ∃ A1, (if 2 ≤ K0.1 then upK Q1.2 most64 else (0, Q1.2)) = A1 := ⟨_, rfl⟩
    rw [hA1] at hbs hgs
    obtain ⟨M1, hM1⟩ : ∃ M1, (if 2 ≤ K0.1 then upK A1.2 most64 else (0, A1.2)) = M1 := ⟨_, rfl⟩
    rw [hM1] at hbs hgs
    obtain ⟨D1, hD1⟩ : ∃ D1, (if K0.1 = 2 then textK M1.2 900 else ([], M1.2)) = D1 := ⟨_, rfl⟩
    rw [hD1] at hbs hgs
    by_cases hk2 : K0.1 = 2
    · rw [if_pos hk2] at hQ1 hD1
      rw [if_pos (by omega)] at hA1 hM1
      have hQ1' := Lib.hid hQ1
      have hA1' := Lib.hid hA1
      have hM1' := Lib.hid hM1
      have hD1' := Lib.hid hD1
      have hkb : (K0.1 == 2) = true := by simpa using hk2
      have hkg : 2 ≤ K0.1 := by omega
      clear hQ1 hA1 hM1 hD1 hk2
      go_wp2_with fail
      generalize wa.setCell ⟨G, 4, none⟩ (.int .i64 B1.1) = w9 at *
      clear g0 g2 f0
      have cc := Lib.hid (ruint_c H9.out)
      rw [hQ1'.out] at cc
      clear H9
      unfold ptrV at cc
      refine cc.out.mono ?_
      rintro e wa ⟨rfl, Ha⟩
      clear cc
      have g0 := Ha.sl.cell (b := G) (o := 5) (.here _ _) rfl
      have g2 := Ha.sl.cell (b := G) (o := 2) (.here _ _) rfl
      have f0 := Ha.sl.free (b := G) (.here _ _) 5
      have Ha1 := Lib.hid (Ha.set (o := 5) (u := .int .u64 Q1.1))
      clear Ha
      go_wp2_with fail
      generalize wa.setCell ⟨G, 5, none⟩ (.int .u64 Q1.1) = wd at *
      clear g0 g2 f0
      have cc := Lib.hid (ruint_c Ha1.out)
      rw [hA1'.out] at cc
      clear Ha1
      unfold ptrV at cc
      refine cc.out.mono ?_
      rintro e wa ⟨rfl, Ha⟩
      clear cc
      have g0 := Ha.sl.cell (b := G) (o := 6) (.here _ _) rfl
      have g2 := Ha.sl.cell (b := G) (o := 2) (.here _ _) rfl
      have f0 := Ha.sl.free (b := G) (.here _ _) 6
      have Ha2 := Lib.hid (Ha.set (o := 6) (u := .int .u64 A1.1))
      clear Ha
      go_wp2_with fail
      generalize wa.setCell ⟨G, 6, none⟩ (.int .u64 A1.1) = we at *
      clear g0 g2 f0
      have cc := Lib.hid (ruint_c Ha2.out)
      rw [hM1'.out] at cc
      clear Ha2
      unfold ptrV at cc
      refine cc.out.mono ?_
      rintro e wa ⟨rfl, Ha⟩
      clear cc
      have g0 := Ha.sl.cell (b := G) (o := 7) (.here _ _) rfl
      have g2 := Ha.sl.cell (b := G) (o := 2) (.here _ _) rfl
      have f0 := Ha.sl.free (b := G) (.here _ _) 7
      have Ha3 := Lib.hid (Ha.set (o := 7) (u := .int .u64 M1.1))
      clear Ha
      go_wp2_with fail
      generalize wa.setCell ⟨G, 7, none⟩ (.int .u64 M1.1) = wf at *
      clear g0 g2 f0
      have cc := Lib.hid (rtext_c Ha3.out (m := 900) (by omega))
      rw [hD1'.out] at cc
      clear Ha3
      unfold ptrV at cc
      refine cc.out.mono ?_
      rintro e wa ⟨ta, tc, rfl, Ha⟩
      clear cc
      have g0 := Ha.sl.cell (b := G) (o := 8) (.there (.here _ _)) rfl
      have f0 := Ha.sl.free (b := G) (.there (.here _ _)) 8
      have hT := Lib.hid (((Ha.re (.step (.there (.here _ _)) (.same _))).set (o := 8) (u := .slice ta D1.1.length tc)).re (.step (.there (.here _ _)) (.same _)))
      clear Ha
      go_wp2_with fail
      generalize wa.setCell ⟨G, 8, none⟩ (.slice ta D1.1.length tc) = wg at *
      clear g0 f0
      have hno := Lib.hid (rend_c hT.out)
      clear hT
      unfold ptrV at hno
      refine hno.out.mono ?_
      rintro e wb ⟨rfl, Hb⟩
      clear hno
      have HB := Hb.sl
      clear Hb
      have HB' := Lib.hid HB
      have q0 := HB.cell (b := G) (o := 0) (.there (.here _ _)) rfl
      have q1 := HB.cell (b := G) (o := 1) (.there (.here _ _)) rfl
      have q2 := HB.cell (b := G) (o := 2) (.there (.here _ _)) rfl
      have q3 := HB.cell (b := G) (o := 3) (.there (.here _ _)) rfl
      have q4 := HB.cell (b := G) (o := 4) (.there (.here _ _)) rfl
      have q5 := HB.cell (b := G) (o := 5) (.there (.here _ _)) rfl
      have q6 := HB.cell (b := G) (o := 6) (.there (.here _ _)) rfl
      have q7 := HB.cell (b := G) (o := 7) (.there (.here _ _)) rfl
      have q8 := HB.cell (b := G) (o := 8) (.there (.here _ _)) rfl
      clear HB
      have cm := Lib.hid (fun M h => may_c ⟨K0.1, F1.1, T1.1, N1.1, B1.1, Q1.1, A1.1, M1.1, D1.1⟩ ta tc HB'.out M h)
      unfold gmV at cm
      dsimp only at cm
      clear HB'
      by_cases he : endK D1.2
      · rw [if_pos he]
        by_cases hm : mayK ⟨K0.1, F1.1, T1.1, N1.1, B1.1, Q1.1, A1.1, M1.1, D1.1⟩
        · have hE := Lib.hid (hgs.out ⟨he, hm⟩)
          have cm2 := Lib.hid (cm.out true (decide_eq_true hm))
          clear he hm hbs hgs cm
          go_wp2_with fail
          clear q0 q1 q2 q3 q4 q5 q6 q7 q8
          refine cm2.out.mono ?_
          rintro e wc ⟨rfl, Hc⟩
          clear cm2
          have HZ := Lib.hid (Hc.re (.step (.there (.there (.here _ _))) (.step (.there (.here _ _)) (.same _))))
          clear Hc
          have q0 := HZ.out.cell (b := G) (o := 0) (.there (.here _ _)) rfl
          have q1 := HZ.out.cell (b := G) (o := 1) (.there (.here _ _)) rfl
          have q2 := HZ.out.cell (b := G) (o := 2) (.there (.here _ _)) rfl
          have q3 := HZ.out.cell (b := G) (o := 3) (.there (.here _ _)) rfl
          have q4 := HZ.out.cell (b := G) (o := 4) (.there (.here _ _)) rfl
          have q5 := HZ.out.cell (b := G) (o := 5) (.there (.here _ _)) rfl
          have q6 := HZ.out.cell (b := G) (o := 6) (.there (.here _ _)) rfl
          have q7 := HZ.out.cell (b := G) (o := 7) (.there (.here _ _)) rfl
          have q8 := HZ.out.cell (b := G) (o := 8) (.there (.here _ _)) rfl
          have z0 := HZ.out.cell (b := Q) (o := 0) (.here _ _) rfl
          have z1 := HZ.out.cell (b := Q) (o := 1) (.here _ _) rfl
          have z2 := HZ.out.cell (b := Q) (o := 2) (.here _ _) rfl
          have z3 := HZ.out.cell (b := Q) (o := 3) (.here _ _) rfl
          have z4 := HZ.out.cell (b := Q) (o := 4) (.here _ _) rfl
          have z5 := HZ.out.cell (b := Q) (o := 5) (.here _ _) rfl
          have z6 := HZ.out.cell (b := Q) (o := 6) (.here _ _) rfl
          have z7 := HZ.out.cell (b := Q) (o := 7) (.here _ _) rfl
          have z8 := HZ.out.cell (b := Q) (o := 8) (.here _ _) rfl
          have y0 := HZ.out.free (b := Q) (.here _ _) 0
          have y1 := HZ.out.free (b := Q) (.here _ _) 1
          have y2 := HZ.out.free (b := Q) (.here _ _) 2
          have y3 := HZ.out.free (b := Q) (.here _ _) 3
          have y4 := HZ.out.free (b := Q) (.here _ _) 4
          have y5 := HZ.out.free (b := Q) (.here _ _) 5
          have y6 := HZ.out.free (b := Q) (.here _ _) 6
          have y7 := HZ.out.free (b := Q) (.here _ _) 7
          have y8 := HZ.out.free (b := Q) (.here _ _) 8
          have fin := Lib.hid ((HZ.out.set9 (.int .i64 F1.1) (.int .i64 T1.1) (.int .i64 K0.1) (.int .u64 N1.1) (.int .i64 B1.1) (.int .u64 Q1.1) (.int .u64 A1.1) (.int .u64 M1.1) (.slice ta D1.1.length tc)).re (.step (.here _ _) (.drop (.same _))))
          clear HZ
          go_wp2_with fail
          refine bodyPost_ret (rdec_results (g := ⟨K0.1, F1.1, T1.1, N1.1, B1.1, Q1.1, A1.1, M1.1, D1.1⟩) fin.out rfl rfl) rfl ?_
          unfold DecPost
          rw [hE.out]
          exact ⟨ta, tc, rfl, fin.out.tail⟩
        · have hE := Lib.hid (hbs.out (fun h => hm h.2))
          have cm2 := Lib.hid (cm.out false (decide_eq_false hm))
          clear he hm hbs hgs cm
          go_wp2_with fail
          clear q0 q1 q2 q3 q4 q5 q6 q7 q8
          refine cm2.out.mono ?_
          rintro e wc ⟨rfl, Hc⟩
          clear cm2
          have HZ := Lib.hid (Hc.re (.drop (.drop (.same _))))
          clear Hc
          have z0 := HZ.out.cell (b := Q) (o := 0) (.here _ _) rfl
          have z1 := HZ.out.cell (b := Q) (o := 1) (.here _ _) rfl
          have z2 := HZ.out.cell (b := Q) (o := 2) (.here _ _) rfl
          have z3 := HZ.out.cell (b := Q) (o := 3) (.here _ _) rfl
          have z4 := HZ.out.cell (b := Q) (o := 4) (.here _ _) rfl
          have z5 := HZ.out.cell (b := Q) (o := 5) (.here _ _) rfl
          have z6 := HZ.out.cell (b := Q) (o := 6) (.here _ _) rfl
          have z7 := HZ.out.cell (b := Q) (o := 7) (.here _ _) rfl
          have z8 := HZ.out.cell (b := Q) (o := 8) (.here _ _) rfl
          have y0 := HZ.out.free (b := Q) (.here _ _) 0
          have y1 := HZ.out.free (b := Q) (.here _ _) 1
          have y2 := HZ.out.free (b := Q) (.here _ _) 2
          have y3 := HZ.out.free (b := Q) (.here _ _) 3
          have y4 := HZ.out.free (b := Q) (.here _ _) 4
          have y5 := HZ.out.free (b := Q) (.here _ _) 5
          have y6 := HZ.out.free (b := Q) (.here _ _) 6
          have y7 := HZ.out.free (b := Q) (.here _ _) 7
          have y8 := HZ.out.free (b := Q) (.here _ _) 8
          have fin := Lib.hid (HZ.out.set9 (.int .i64 0) (.int .i64 0) (.int .i64 0) (.int .u64 0) (.int .i64 0) (.int .u64 0) (.int .u64 0) (.int .u64 0) (.slice none 0 0))
          clear HZ
          go_wp2_with fail
          exact bodyPost_ret (rdec_results (g := Gm0) fin.out rfl rfl) rfl (decPost_zero hE.out fin.out.tail rfl)
      · rw [if_neg he]
        have hE := Lib.hid (hbs.out (fun h => he h.1))
        have cm2 := Lib.hid (cm.out _ rfl)
        generalize decide (mayK ⟨K0.1, F1.1, T1.1, N1.1, B1.1, Q1.1, A1.1, M1.1, D1.1⟩) = mm at *
        clear he hbs hgs cm
        go_wp2_with fail
        clear q0 q1 q2 q3 q4 q5 q6 q7 q8
        refine cm2.out.mono ?_
        rintro e wc ⟨rfl, Hc⟩
        clear cm2
        have HZ := Lib.hid (Hc.re (.drop (.drop (.same _))))
        clear Hc
        have z0 := HZ.out.cell (b := Q) (o := 0) (.here _ _) rfl
        have z1 := HZ.out.cell (b := Q) (o := 1) (.here _ _) rfl
        have z2 := HZ.out.cell (b := Q) (o := 2) (.here _ _) rfl
        have z3 := HZ.out.cell (b := Q) (o := 3) (.here _ _) rfl
        have z4 := HZ.out.cell (b := Q) (o := 4) (.here _ _) rfl
        have z5 := HZ.out.cell (b := Q) (o := 5) (.here _ _) rfl
        have z6 := HZ.out.cell (b := Q) (o := 6) (.here _ _) rfl
        have z7 := HZ.out.cell (b := Q) (o := 7) (.here _ _) rfl
        have z8 := HZ.out.cell (b := Q) (o := 8) (.here _ _) rfl
        have y0 := HZ.out.free (b := Q) (.here _ _) 0
        have y1 := HZ.out.free (b := Q) (.here _ _) 1
        have y2 := HZ.out.free (b := Q) (.here _ _) 2
        have y3 := HZ.out.free (b := Q) (.here _ _) 3
        have y4 := HZ.out.free (b := Q) (.here _ _) 4
        have y5 := HZ.out.free (b := Q) (.here _ _) 5
        have y6 := HZ.out.free (b := Q) (.here _ _) 6
        have y7 := HZ.out.free (b := Q) (.here _ _) 7
        have y8 := HZ.out.free (b := Q) (.here _ _) 8
        have fin := Lib.hid (HZ.out.set9 (.int .i64 0) (.int .i64 0) (.int .i64 0) (.int .u64 0) (.int .i64 0) (.int .u64 0) (.int .u64 0) (.int .u64 0) (.slice none 0 0))
        clear HZ
        go_wp2_with fail
        exact bodyPost_ret (rdec_results (g := Gm0) fin.out rfl rfl) rfl (decPost_zero hE.out fin.out.tail rfl)
    rw [if_neg hk2] at hQ1 hD1
    have hkb : (K0.1 == 2) = false := by simpa using hk2
    by_cases hkg : 2 ≤ K0.1
    · rw [if_pos hkg] at hA1 hM1
      have hA1' := Lib.hid hA1
      have hM1' := Lib.hid hM1
      clear hA1 hM1 hk2
      obtain ⟨hq1, hq2⟩ : Q1.1 = 0 ∧ Q1.2 = B1.2 := by rw [← hQ1]; exact ⟨rfl, rfl⟩
      clear hQ1
      have hq1' := Lib.hid hq1
      rw [hq2] at hA1'
      clear hq1 hq2
      go_wp2_with fail
      generalize wa.setCell ⟨G, 4, none⟩ (.int .i64 B1.1) = w9 at *
      clear g0 g2 f0
      have cc := Lib.hid (ruint_c H9.out)
      rw [hA1'.out] at cc
      clear H9
      unfold ptrV at cc
      refine cc.out.mono ?_
      rintro e wa ⟨rfl, Ha⟩
      clear cc
      have g0 := Ha.sl.cell (b := G) (o := 6) (.here _ _) rfl
      have g2 := Ha.sl.cell (b := G) (o := 2) (.here _ _) rfl
      have f0 := Ha.sl.free (b := G) (.here _ _) 6
      have Ha2 := Lib.hid (Ha.set (o := 6) (u := .int .u64 A1.1))
      clear Ha
      go_wp2_with fail
      generalize wa.setCell ⟨G, 6, none⟩ (.int .u64 A1.1) = we at *
      clear g0 g2 f0
      have cc := Lib.hid (ruint_c Ha2.out)
      rw [hM1'.out] at cc
      clear Ha2
      unfold ptrV at cc
      refine cc.out.mono ?_
      rintro e wa ⟨rfl, Ha⟩
      clear cc
      have g0 := Ha.sl.cell (b := G) (o := 7) (.here _ _) rfl
      have g2 := Ha.sl.cell (b := G) (o := 2) (.here _ _) rfl
      have f0 := Ha.sl.free (b := G) (.here _ _) 7
      have Ha3 := Lib.hid (Ha.set (o := 7) (u := .int .u64 M1.1))
      clear Ha
      go_wp2_with fail
      generalize wa.setCell ⟨G, 7, none⟩ (.int .u64 M1.1) = wf at *
      clear g0 g2 f0
      obtain ⟨ta, tc, hta, htc, hlD⟩ : ∃ ta tc, ta = (none : Option Addr) ∧ tc = 0 ∧ D1 = ([], M1.2) := ⟨none, 0, rfl, rfl, by rw [← hD1]⟩
      have hT : Hid (RfrAt a2 c2 ob (.slice a2 ob.length c2) ob.length (bv ob) r D1.2 (.own 5 1 (.slice ta D1.1.length tc) D1.1.length (bv D1.1) :: .blk G [.int .i64 F1.1, .int .i64 T1.1, .int .i64 K0.1, .int .u64 N1.1, .int .i64 B1.1, .int .u64 Q1.1, .int .u64 A1.1, .int .u64 M1.1, .slice ta D1.1.length tc] 25 :: .blk Q Z9 25 :: L) wf) := Lib.hid (by
        have h := Ha3.out
        rw [hlD, hta, htc]
        rw [hq1'.out]
        obtain ⟨x, h1, h2⟩ := h
        exact ⟨x, (h1.pure (q := .own 5 1 (.slice none 0 0) 0 []) (OwnK.nil _ _ _ _) (fun b h => by cases h)).re (.step (.there (.here _ _)) (.step (.there (.here _ _)) (.same _))), h2⟩)
      have hq1'' := hq1'
      clear hD1 hta htc hlD Ha3
      have hno := Lib.hid (rend_c hT.out)
      clear hT
      unfold ptrV at hno
      refine hno.out.mono ?_
      rintro e wb ⟨rfl, Hb⟩
      clear hno
      have HB := Hb.sl
      clear Hb
      have HB' := Lib.hid HB
      have q0 := HB.cell (b := G) (o := 0) (.there (.here _ _)) rfl
      have q1 := HB.cell (b := G) (o := 1) (.there (.here _ _)) rfl
      have q2 := HB.cell (b := G) (o := 2) (.there (.here _ _)) rfl
      have q3 := HB.cell (b := G) (o := 3) (.there (.here _ _)) rfl
      have q4 := HB.cell (b := G) (o := 4) (.there (.here _ _)) rfl
      have q5 := HB.cell (b := G) (o := 5) (.there (.here _ _)) rfl
      have q6 := HB.cell (b := G) (o := 6) (.there (.here _ _)) rfl
      have q7 := HB.cell (b := G) (o := 7) (.there (.here _ _)) rfl
      have q8 := HB.cell (b := G) (o := 8) (.there (.here _ _)) rfl
      clear HB
      have cm := Lib.hid (fun M h => may_c ⟨K0.1, F1.1, T1.1, N1.1, B1.1, Q1.1, A1.1, M1.1, D1.1⟩ ta tc HB'.out M h)
      unfold gmV at cm
      dsimp only at cm
      clear HB'
      by_cases he : endK D1.2
      · rw [if_pos he]
        by_cases hm : mayK ⟨K0.1, F1.1, T1.1, N1.1, B1.1, Q1.1, A1.1, M1.1, D1.1⟩
        · have hE := Lib.hid (hgs.out ⟨he, hm⟩)
          have cm2 := Lib.hid (cm.out true (decide_eq_true hm))
          clear he hm hbs hgs cm
          go_wp2_with fail
          clear q0 q1 q2 q3 q4 q5 q6 q7 q8
          refine cm2.out.mono ?_
          rintro e wc ⟨rfl, Hc⟩
          clear cm2
          have HZ := Lib.hid (Hc.re (.step (.there (.there (.here _ _))) (.step (.there (.here _ _)) (.same _))))
          clear Hc
          have q0 := HZ.out.cell (b := G) (o := 0) (.there (.here _ _)) rfl
          have q1 := HZ.out.cell (b := G) (o := 1) (.there (.here _ _)) rfl
          have q2 := HZ.out.cell (b := G) (o := 2) (.there (.here _ _)) rfl
          have q3 := HZ.out.cell (b := G) (o := 3) (.there (.here _ _)) rfl
          have q4 := HZ.out.cell (b := G) (o := 4) (.there (.here _ _)) rfl
          have q5 := HZ.out.cell (b := G) (o := 5) (.there (.here _ _)) rfl
          have q6 := HZ.out.cell (b := G) (o := 6) (.there (.here _ _)) rfl
          have q7 := HZ.out.cell (b := G) (o := 7) (.there (.here _ _)) rfl
          have q8 := HZ.out.cell (b := G) (o := 8) (.there (.here _ _)) rfl
          have z0 := HZ.out.cell (b := Q) (o := 0) (.here _ _) rfl
          have z1 := HZ.out.cell (b := Q) (o := 1) (.here _ _) rfl
          have z2 := HZ.out.cell (b := Q) (o := 2) (.here _ _) rfl
          have z3 := HZ.out.cell (b := Q) (o := 3) (.here _ _) rfl
          have z4 := HZ.out.cell (b := Q) (o := 4) (.here _ _) rfl
          have z5 := HZ.out.cell (b := Q) (o := 5) (.here _ _) rfl
          have z6 := HZ.out.cell (b := Q) (o := 6) (.here _ _) rfl
          have z7 := HZ.out.cell (b := Q) (o := 7) (.here _ _) rfl
          have z8 := HZ.out.cell (b := Q) (o := 8) (.here _ _) rfl
          have y0 := HZ.out.free (b := Q) (.here _ _) 0
          have y1 := HZ.out.free (b := Q) (.here _ _) 1
          have y2 := HZ.out.free (b := Q) (.here _ _) 2
          have y3 := HZ.out.free (b := Q) (.here _ _) 3
          have y4 := HZ.out.free (b := Q) (.here _ _) 4
          have y5 := HZ.out.free (b := Q) (.here _ _) 5
          have y6 := HZ.out.free (b := Q) (.here _ _) 6
          have y7 := HZ.out.free (b := Q) (.here _ _) 7
          have y8 := HZ.out.free (b := Q) (.here _ _) 8
          have fin := Lib.hid ((HZ.out.set9 (.int .i64 F1.1) (.int .i64 T1.1) (.int .i64 K0.1) (.int .u64 N1.1) (.int .i64 B1.1) (.int .u64 Q1.1) (.int .u64 A1.1) (.int .u64 M1.1) (.slice ta D1.1.length tc)).re (.step (.here _ _) (.drop (.same _))))
          clear HZ
          go_wp2_with fail
          refine bodyPost_ret (rdec_results (g := ⟨K0.1, F1.1, T1.1, N1.1, B1.1, Q1.1, A1.1, M1.1, D1.1⟩) fin.out rfl rfl) rfl ?_
          unfold DecPost
          rw [hE.out]
          exact ⟨ta, tc, rfl, fin.out.tail⟩
        · have hE := Lib.hid (hbs.out (fun h => hm h.2))
          have cm2 := Lib.hid (cm.out false (decide_eq_false hm))
          clear he hm hbs hgs cm
          go_wp2_with fail
          clear q0 q1 q2 q3 q4 q5 q6 q7 q8
          refine cm2.out.mono ?_
          rintro e wc ⟨rfl, Hc⟩
          clear cm2
          have HZ := Lib.hid (Hc.re (.drop (.drop (.same _))))
          clear Hc
          have z0 := HZ.out.cell (b := Q) (o := 0) (.here _ _) rfl
          have z1 := HZ.out.cell (b := Q) (o := 1) (.here _ _) rfl
          have z2 := HZ.out.cell (b := Q) (o := 2) (.here _ _) rfl
          have z3 := HZ.out.cell (b := Q) (o := 3) (.here _ _) rfl
          have z4 := HZ.out.cell (b := Q) (o := 4) (.here _ _) rfl
          have z5 := HZ.out.cell (b := Q) (o := 5) (.here _ _) rfl
          have z6 := HZ.out.cell (b := Q) (o := 6) (.here _ _) rfl
          have z7 := HZ.out.cell (b := Q) (o := 7) (.here _ _) rfl
          have z8 := HZ.out.cell (b := Q) (o := 8) (.here _ _) rfl
          have y0 := HZ.out.free (b := Q) (.here _ _) 0
          have y1 := HZ.out.free (b := Q) (.here _ _) 1
          have y2 := HZ.out.free (b := Q) (.here _ _) 2
          have y3 := HZ.out.free (b := Q) (.here _ _) 3
          have y4 := HZ.out.free (b := Q) (.here _ _) 4
          have y5 := HZ.out.free (b := Q) (.here _ _) 5
          have y6 := HZ.out.free (b := Q) (.here _ _) 6
          have y7 := HZ.out.free (b := Q) (.here _ _) 7
          have y8 := HZ.out.free (b := Q) (.here _ _) 8
          have fin := Lib.hid (HZ.out.set9 (.int .i64 0) (.int .i64 0) (.int .i64 0) (.int .u64 0) (.int .i64 0) (.int .u64 0) (.int .u64 0) (.int .u64 0) (.slice none 0 0))
          clear HZ
          go_wp2_with fail
          exact bodyPost_ret (rdec_results (g := Gm0) fin.out rfl rfl) rfl (decPost_zero hE.out fin.out.tail rfl)
      · rw [if_neg he]
        have hE := Lib.hid (hbs.out (fun h => he h.1))
        have cm2 := Lib.hid (cm.out _ rfl)
        generalize decide (mayK ⟨K0.1, F1.1, T1.1, N1.1, B1.1, Q1.1, A1.1, M1.1, D1.1⟩) = mm at *
        clear he hbs hgs cm
        go_wp2_with fail
        clear q0 q1 q2 q3 q4 q5 q6 q7 q8
        refine cm2.out.mono ?_
        rintro e wc ⟨rfl, Hc⟩
        clear cm2
        have HZ := Lib.hid (Hc.re (.drop (.drop (.same _))))
        clear Hc
        have z0 := HZ.out.cell (b := Q) (o := 0) (.here _ _) rfl
        have z1 := HZ.out.cell (b := Q) (o := 1) (.here _ _) rfl
        have z2 := HZ.out.cell (b := Q) (o := 2) (.here _ _) rfl
        have z3 := HZ.out.cell (b := Q) (o := 3) (.here _ _) rfl
        have z4 := HZ.out.cell (b := Q) (o := 4) (.here _ _) rfl
        have z5 := HZ.out.cell (b := Q) (o := 5) (.here _ _) rfl
        have z6 := HZ.out.cell (b := Q) (o := 6) (.here _ _) rfl
        have z7 := HZ.out.cell (b := Q) (o := 7) (.here _ _) rfl
        have z8 := HZ.out.cell (b := Q) (o := 8) (.here _ _) rfl
        have y0 := HZ.out.free (b := Q) (.here _ _) 0
        have y1 := HZ.out.free (b := Q) (.here _ _) 1
        have y2 := HZ.out.free (b := Q) (.here _ _) 2
        have y3 := HZ.out.free (b := Q) (.here _ _) 3
        have y4 := HZ.out.free (b := Q) (.here _ _) 4
        have y5 := HZ.out.free (b := Q) (.here _ _) 5
        have y6 := HZ.out.free (b := Q) (.here _ _) 6
        have y7 := HZ.out.free (b := Q) (.here _ _) 7
        have y8 := HZ.out.free (b := Q) (.here _ _) 8
        have fin := Lib.hid (HZ.out.set9 (.int .i64 0) (.int .i64 0) (.int .i64 0) (.int .u64 0) (.int .i64 0) (.int .u64 0) (.int .u64 0) (.int .u64 0) (.slice none 0 0))
        clear HZ
        go_wp2_with fail
        exact bodyPost_ret (rdec_results (g := Gm0) fin.out rfl rfl) rfl (decPost_zero hE.out fin.out.tail rfl)
    · rw [if_neg hkg] at hA1 hM1
      obtain ⟨hq1, hq2⟩ : Q1.1 = 0 ∧ Q1.2 = B1.2 := by rw [← hQ1]; exact ⟨rfl, rfl⟩
      obtain ⟨ha1, ha2⟩ : A1.1 = 0 ∧ A1.2 = Q1.2 := by rw [← hA1]; exact ⟨rfl, rfl⟩
      obtain ⟨hm1, hm2⟩ : M1.1 = 0 ∧ M1.2 = A1.2 := by rw [← hM1]; exact ⟨rfl, rfl⟩
      have hz3 := Lib.hid (And.intro hq1 (And.intro ha1 (And.intro hm1 (hm2.trans (ha2.trans hq2)))))
      clear hQ1 hA1 hM1 hq1 hq2 ha1 ha2 hm1 hm2 hk2
      have hkg2 : K0.1 < 2 := by omega
      clear hkg
      go_wp2_with fail
      generalize wa.setCell ⟨G, 4, none⟩ (.int .i64 B1.1) = w9 at *
      clear g0 g2 f0
      obtain ⟨ta, tc, hta, htc, hlD⟩ : ∃ ta tc, ta = (none : Option Addr) ∧ tc = 0 ∧ D1 = ([], M1.2) := ⟨none, 0, rfl, rfl, by rw [← hD1]⟩
      have hT : Hid (RfrAt a2 c2 ob (.slice a2 ob.length c2) ob.length (bv ob) r D1.2 (.own 5 1 (.slice ta D1.1.length tc) D1.1.length (bv D1.1) :: .blk G [.int .i64 F1.1, .int .i64 T1.1, .int .i64 K0.1, .int .u64 N1.1, .int .i64 B1.1, .int .u64 Q1.1, .int .u64 A1.1, .int .u64 M1.1, .slice ta D1.1.length tc] 25 :: .blk Q Z9 25 :: L) w9) := Lib.hid (by
        have h := H9.out
        rw [hlD, hta, htc]
        rw [hz3.out.1, hz3.out.2.1, hz3.out.2.2.1, hz3.out.2.2.2]
        obtain ⟨x, h1, h2⟩ := h
        exact ⟨x, (h1.pure (q := .own 5 1 (.slice none 0 0) 0 []) (OwnK.nil _ _ _ _) (fun b h => by cases h)).re (.step (.there (.here _ _)) (.step (.there (.here _ _)) (.same _))), h2⟩)
      clear hD1 hta htc hlD H9
      have hno := Lib.hid (rend_c hT.out)
      clear hT
      unfold ptrV at hno
      refine hno.out.mono ?_
      rintro e wb ⟨rfl, Hb⟩
      clear hno
      have HB := Hb.sl
      clear Hb
      have HB' := Lib.hid HB
      have q0 := HB.cell (b := G) (o := 0) (.there (.here _ _)) rfl
      have q1 := HB.cell (b := G) (o := 1) (.there (.here _ _)) rfl
      have q2 := HB.cell (b := G) (o := 2) (.there (.here _ _)) rfl
      have q3 := HB.cell (b := G) (o := 3) (.there (.here _ _)) rfl
      have q4 := HB.cell (b := G) (o := 4) (.there (.here _ _)) rfl
      have q5 := HB.cell (b := G) (o := 5) (.there (.here _ _)) rfl
      have q6 := HB.cell (b := G) (o := 6) (.there (.here _ _)) rfl
      have q7 := HB.cell (b := G) (o := 7) (.there (.here _ _)) rfl
      have q8 := HB.cell (b := G) (o := 8) (.there (.here _ _)) rfl
      clear HB
      have cm := Lib.hid (fun M h => may_c ⟨K0.1, F1.1, T1.1, N1.1, B1.1, Q1.1, A1.1, M1.1, D1.1⟩ ta tc HB'.out M h)
      unfold gmV at cm
      dsimp only at cm
      clear HB'
      by_cases he : endK D1.2
      · rw [if_pos he]
        by_cases hm : mayK ⟨K0.1, F1.1, T1.1, N1.1, B1.1, Q1.1, A1.1, M1.1, D1.1⟩
        · have hE := Lib.hid (hgs.out ⟨he, hm⟩)
          have cm2 := Lib.hid (cm.out true (decide_eq_true hm))
          clear he hm hbs hgs cm
          go_wp2_with fail
          clear q0 q1 q2 q3 q4 q5 q6 q7 q8
          refine cm2.out.mono ?_
          rintro e wc ⟨rfl, Hc⟩
          clear cm2
          have HZ := Lib.hid (Hc.re (.step (.there (.there (.here _ _))) (.step (.there (.here _ _)) (.same _))))
          clear Hc
          have q0 := HZ.out.cell (b := G) (o := 0) (.there (.here _ _)) rfl
          have q1 := HZ.out.cell (b := G) (o := 1) (.there (.here _ _)) rfl
          have q2 := HZ.out.cell (b := G) (o := 2) (.there (.here _ _)) rfl
          have q3 := HZ.out.cell (b := G) (o := 3) (.there (.here _ _)) rfl
          have q4 := HZ.out.cell (b := G) (o := 4) (.there (.here _ _)) rfl
          have q5 := HZ.out.cell (b := G) (o := 5) (.there (.here _ _)) rfl
          have q6 := HZ.out.cell (b := G) (o := 6) (.there (.here _ _)) rfl
          have q7 := HZ.out.cell (b := G) (o := 7) (.there (.here _ _)) rfl
          have q8 := HZ.out.cell (b := G) (o := 8) (.there (.here _ _)) rfl
          have z0 := HZ.out.cell (b := Q) (o := 0) (.here _ _) rfl
          have z1 := HZ.out.cell (b := Q) (o := 1) (.here _ _) rfl
          have z2 := HZ.out.cell (b := Q) (o := 2) (.here _ _) rfl
          have z3 := HZ.out.cell (b := Q) (o := 3) (.here _ _) rfl
          have z4 := HZ.out.cell (b := Q) (o := 4) (.here _ _) rfl
          have z5 := HZ.out.cell (b := Q) (o := 5) (.here _ _) rfl
          have z6 := HZ.out.cell (b := Q) (o := 6) (.here _ _) rfl
          have z7 := HZ.out.cell (b := Q) (o := 7) (.here _ _) rfl
          have z8 := HZ.out.cell (b := Q) (o := 8) (.here _ _) rfl
          have y0 := HZ.out.free (b := Q) (.here _ _) 0
          have y1 := HZ.out.free (b := Q) (.here _ _) 1
          have y2 := HZ.out.free (b := Q) (.here _ _) 2
          have y3 := HZ.out.free (b := Q) (.here _ _) 3
          have y4 := HZ.out.free (b := Q) (.here _ _) 4
          have y5 := HZ.out.free (b := Q) (.here _ _) 5
          have y6 := HZ.out.free (b := Q) (.here _ _) 6
          have y7 := HZ.out.free (b := Q) (.here _ _) 7
          have y8 := HZ.out.free (b := Q) (.here _ _) 8
          have fin := Lib.hid ((HZ.out.set9 (.int .i64 F1.1) (.int .i64 T1.1) (.int .i64 K0.1) (.int .u64 N1.1) (.int .i64 B1.1) (.int .u64 Q1.1) (.int .u64 A1.1) (.int .u64 M1.1) (.slice ta D1.1.length tc)).re (.step (.here _ _) (.drop (.same _))))
          clear HZ
          go_wp2_with fail
          refine bodyPost_ret (rdec_results (g := ⟨K0.1, F1.1, T1.1, N1.1, B1.1, Q1.1, A1.1, M1.1, D1.1⟩) fin.out rfl rfl) rfl ?_
          unfold DecPost
          rw [hE.out]
          exact ⟨ta, tc, rfl, fin.out.tail⟩
        · have hE := Lib.hid (hbs.out (fun h => hm h.2))
          have cm2 := Lib.hid (cm.out false (decide_eq_false hm))
          clear he hm hbs hgs cm
          go_wp2_with fail
          clear q0 q1 q2 q3 q4 q5 q6 q7 q8
          refine cm2.out.mono ?_
          rintro e wc ⟨rfl, Hc⟩
          clear cm2
          have HZ := Lib.hid (Hc.re (.drop (.drop (.same _))))
          clear Hc
          have z0 := HZ.out.cell (b := Q) (o := 0) (.here _ _) rfl
          have z1 := HZ.out.cell (b := Q) (o := 1) (.here _ _) rfl
          have z2 := HZ.out.cell (b := Q) (o := 2) (.here _ _) rfl
          have z3 := HZ.out.cell (b := Q) (o := 3) (.here _ _) rfl
          have z4 := HZ.out.cell (b := Q) (o := 4) (.here _ _) rfl
          have z5 := HZ.out.cell (b := Q) (o := 5) (.here _ _) rfl
          have z6 := HZ.out.cell (b := Q) (o := 6) (.here _ _) rfl
          have z7 := HZ.out.cell (b := Q) (o := 7) (.here _ _) rfl
          have z8 := HZ.out.cell (b := Q) (o := 8) (.here _ _) rfl
          have y0 := HZ.out.free (b := Q) (.here _ _) 0
          have y1 := HZ.out.free (b := Q) (.here _ _) 1
          have y2 := HZ.out.free (b := Q) (.here _ _) 2
          have y3 := HZ.out.free (b := Q) (.here _ _) 3
          have y4 := HZ.out.free (b := Q) (.here _ _) 4
          have y5 := HZ.out.free (b := Q) (.here _ _) 5
          have y6 := HZ.out.free (b := Q) (.here _ _) 6
          have y7 := HZ.out.free (b := Q) (.here _ _) 7
          have y8 := HZ.out.free (b := Q) (.here _ _) 8
          have fin := Lib.hid (HZ.out.set9 (.int .i64 0) (.int .i64 0) (.int .i64 0) (.int .u64 0) (.int .i64 0) (.int .u64 0) (.int .u64 0) (.int .u64 0) (.slice none 0 0))
          clear HZ
          go_wp2_with fail
          exact bodyPost_ret (rdec_results (g := Gm0) fin.out rfl rfl) rfl (decPost_zero hE.out fin.out.tail rfl)
      · rw [if_neg he]
        have hE := Lib.hid (hbs.out (fun h => he h.1))
        have cm2 := Lib.hid (cm.out _ rfl)
        generalize decide (mayK ⟨K0.1, F1.1, T1.1, N1.1, B1.1, Q1.1, A1.1, M1.1, D1.1⟩) = mm at *
        clear he hbs hgs cm
        go_wp2_with fail
        clear q0 q1 q2 q3 q4 q5 q6 q7 q8
        refine cm2.out.mono ?_
        rintro e wc ⟨rfl, Hc⟩
        clear cm2
        have HZ := Lib.hid (Hc.re (.drop (.drop (.same _))))
        clear Hc
        have z0 := HZ.out.cell (b := Q) (o := 0) (.here _ _) rfl
        have z1 := HZ.out.cell (b := Q) (o := 1) (.here _ _) rfl
        have z2 := HZ.out.cell (b := Q) (o := 2) (.here _ _) rfl
        have z3 := HZ.out.cell (b := Q) (o := 3) (.here _ _) rfl
        have z4 := HZ.out.cell (b := Q) (o := 4) (.here _ _) rfl
        have z5 := HZ.out.cell (b := Q) (o := 5) (.here _ _) rfl
        have z6 := HZ.out.cell (b := Q) (o := 6) (.here _ _) rfl
        have z7 := HZ.out.cell (b := Q) (o := 7) (.here _ _) rfl
        have z8 := HZ.out.cell (b := Q) (o := 8) (.here _ _) rfl
        have y0 := HZ.out.free (b := Q) (.here _ _) 0
        have y1 := HZ.out.free (b := Q) (.here _ _) 1
        have y2 := HZ.out.free (b := Q) (.here _ _) 2
        have y3 := HZ.out.free (b := Q) (.here _ _) 3
        have y4 := HZ.out.free (b := Q) (.here _ _) 4
        have y5 := HZ.out.free (b := Q) (.here _ _) 5
        have y6 := HZ.out.free (b := Q) (.here _ _) 6
        have y7 := HZ.out.free (b := Q) (.here _ _) 7
        have y8 := HZ.out.free (b := Q) (.here _ _) 8
        have fin := Lib.hid (HZ.out.set9 (.int .i64 0) (.int .i64 0) (.int .i64 0) (.int .u64 0) (.int .i64 0) (.int .u64 0) (.int .u64 0) (.int .u64 0) (.slice none 0 0))
        clear HZ
        go_wp2_with fail
        exact bodyPost_ret (rdec_results (g := Gm0) fin.out rfl rfl) rfl (decPost_zero hE.out fin.out.tail rfl)
  · have hz40 : openZ bs = 40 := by rcases openZ_or bs with h | h; exact absurd h hz; exact h
    rw [hz40]
    have hdr := Lib.hid (decR_no hz)
    have fin := Lib.hid (H2.tail.set9 (.int .i64 0) (.int .i64 0) (.int .i64 0) (.int .u64 0) (.int .i64 0) (.int .u64 0) (.int .u64 0) (.int .u64 0) (.slice none 0 0))
    have H := H2.tail
    (have C := H.cells; dsimp only [cellsOf, Pc.cells, cellsFrom, Nat.zero_add, Nat.reduceAdd] at C; (try simp only [true_and] at C); (try simp only [and_true] at C))
    obtain ⟨⟨q0, f0, q1, f1, q2, f2, q3, f3, q4, f4, q5, f5, q6, f6, q7, f7, q8, f8⟩, -⟩ := C
    clear H H2 hz hz40
    go_wp2_with fail
    exact bodyPost_ret (rdec_results (g := Gm0) fin.out rfl rfl) rfl (decPost_zero hdr.out fin.out.tail rfl)
end Go.Proofs.Ytilpkfgdlehmpaa
