/- The reference's Tick: the walk. -/
import Derived.Test.YtcjmkpphohkofaaRfH
import Derived.StillTailTactics
namespace Go.Proofs.Ytcjmkpphohkofaa
open Go.RowKit Go.Shelf
set_option linter.unusedVariables false

section
variable {R : Int} {y : Nat} {s : Ck} {L : List Pc} {w : World}
set_option maxRecDepth 100000 in
set_option maxHeartbeats 16000000 in
theorem rtick_c (H : RF R y s L w) (hR : R ≤ 1000000000) :
    Calls Try.prog 40 #[ptrV y] w fun e w' => ∃ a c, e = .returned (.slice a (ringsK s.l).length c) ∧ RF (R + 1) y (tickS s) (.own 30 1 (.slice a (ringsK s.l).length c) (ringsK s.l).length (uv (ringsK s.l)) :: L) w' := by
  obtain ⟨now, sl, ol, HS, ok⟩ := H
  have hlen : ol.length ≤ 256 := by rw [ok.len]; exact ok.2.2.len
  obtain ⟨sa, sc, rfl, hsc, -⟩ := sl_form (HS.re (.step (.there (.here _ _)) (.same _)))
  obtain ⟨n, hn⟩ : ∃ n, ol.length = n := ⟨_, rfl⟩
  have hn' := Lib.hid hn
  have hrp := rings_perm ok
  have hrs := rings_srt ok.2.2.srt
  have hnow := ok.1
  have hbb := ok.2.2.b
  have hal := Lib.hid fun i (hi : i < ol.length) => ok.at' hi
  have htp := tick_perm ok
  obtain ⟨b, hb⟩ : ∃ b, s.b = b := ⟨_, rfl⟩
  have hfin : Hid (∀ V a c m, m = (ringsK s.l).length → SL V (.own 30 1 (.slice a m c) m (uv (ringsK s.l)) :: .own 73 4 (.slice sa n sc) n (alC (ol.map (tkO b ((now : Int) + 1)))) :: .blk y [.int .i64 s.a, .int .i64 b, .int .i64 ((now : Int) + 1), .slice sa n sc] 71 :: L) → RF (R + 1) y (tickS s) (.own 30 1 (.slice a (ringsK s.l).length c) (ringsK s.l).length (uv (ringsK s.l)) :: L) V) := Lib.hid fun V a c m hm h => ⟨now + 1, .slice sa n sc, ol.map (tkO s.b ((now : Int) + 1)), by
    unfold rfP
    rw [List.length_map, hn, ← hm]
    rw [← hb] at h
    exact h.re (.step (.there (.there (.here _ _))) (.step (.there (.here _ _)) (.same _))), htp⟩
  have hn0 : Hid ((ringsK s.l).length = (keysK (ol.filter (rgO ((now : Int) + 1)))).length) := Lib.hid hrp.length_eq.symm
  have hrp' := Lib.hid hrp
  have hrs' := Lib.hid hrs
  unfold rfP at HS
  rw [hn] at HS hsc hlen
  rw [hb] at HS hbb hal
  have c2 := HS.cell (b := y) (o := 2) (.here _ _) rfl
  have f2 := HS.free (b := y) (.here _ _) 2
  obtain ⟨t, ht⟩ : ∃ t : Int, (now : Int) + 1 = t := ⟨_, rfl⟩
  have hwt : IntKind.i64.wrap ((now : Int) + 1) = t := by rw [ht]; exact IntWalk.i64_in _ ⟨by omega, by omega⟩
  have hH : Hid (SL (w.setCell ⟨y, 2, none⟩ (.int .i64 t)) (.own 30 1 (.slice none 0 0) 0 (uv (keysK ((ol.take 0).filter (rgO t)))) :: .own 73 4 (.slice sa n sc) n (alC (mpT (tkO b t) ol 0)) :: .blk y [.int .i64 s.a, .int .i64 b, .int .i64 t, .slice sa n sc] 71 :: L)) := by
    have h0 := (show SL w (_ :: _ :: L) from HS).setCell 2 (.int .i64 t)
    exact Lib.hid ((h0.re (.step (.there (.here _ _)) (.same _))).pure (q := .own 30 1 (.slice none 0 0) 0 []) (OwnK.nil _ _ _ _) (fun b h => by cases h))
  rw [ht] at hfin hn0 hrp'
  clear HS ok hn hrp hrs htp hb
  have ht' := Lib.hid ht
  have htb : t ≤ 1000000001 ∧ 1 ≤ t := by omega
  clear hwt
  unfold ptrV at *
  go_enter Try.func40, Try.ntmps40
  go_wp2_with fail
  generalize w.setCell ⟨y, 2, none⟩ (.int .i64 t) = w1 at *
  clear c2 f2 ht hnow
  go_loopw [4, 3] (fun i x V => ∃ (u m : Nat) (la : Option Addr) (lc : Nat), u ≤ n ∧ i = .int .i64 u ∧ x = .slice la m lc ∧ m ≤ u ∧ Hid ((keysK ((ol.take u).filter (rgO t))).length = m ∧ SL V (.own 30 1 (.slice la m lc) m (uv (keysK ((ol.take u).filter (rgO t)))) :: .own 73 4 (.slice sa n sc) n (alC (mpT (tkO b t) ol u)) :: .blk y [.int .i64 s.a, .int .i64 b, .int .i64 t, .slice sa n sc] 71 :: L))) (fun i _ _ => n - (intOf i).toNat)
  case atStart => exact ⟨0, 0, none, 0, by omega, rfl, rfl, by omega, Lib.hid ⟨rfl, hH.out⟩⟩
  case round =>
    clear hH
    obtain ⟨u, m, la, lc, hu, rfl, rfl, hmu, hR⟩ := hrel
    obtain ⟨hm, HC⟩ := hR.out
    have hm' := Lib.hid hm
    have c3 := HC.cell (b := y) (o := 3) (.there (.there (.here _ _))) rfl
    have c2 := HC.cell (b := y) (o := 2) (.there (.there (.here _ _))) rfl
    by_cases hun : u < n
    · have hul : u < ol.length := by rw [hn'.out]; exact hun
      have hft := Lib.hid (ro_take (t := t) hul)
      obtain ⟨h1, h2⟩ := mpT_at (tkO b t) ol hul
      have h3 := HC.re (.step (.there (.here _ _)) (.same _))
      rw [show n = (mpT (tkO b t) ol u).length by rw [mpT_length, hn'.out]] at h3
      obtain ⟨g, cap, e1, -, g0, g1, g2, g3⟩ := own_alE h3 h1
      simp only [Value.slice.injEq] at e1
      obtain ⟨rfl, -, rfl⟩ := e1
      rw [h2] at g0 g1 g2 g3
      have hui : u + 1 ≤ sc := by omega
      have hsucc := Lib.hid (mpT_succ (tkO b t) ol hul)
      obtain ⟨hxk, ⟨hw1, hw2⟩, -, ⟨hg1, hg2⟩⟩ := hal.out u hul
      have hHC := Lib.hid HC
      by_cases hlt : (ol[u]'hul).left = t
      · obtain ⟨x, hx⟩ : ∃ x, ol[u]'hul = x := ⟨_, rfl⟩
        have hT : Hid (tkO b t (ol[u]'hul) = ⟨x.key, min (2 * x.wait) b, t + min (2 * x.wait) b, x.rung + 1⟩) := Lib.hid (by rw [hx] at hlt ⊢; exact if_pos hlt)
        have hml : (mpT (tkO b t) ol u).length = n := by rw [mpT_length, hn'.out]
        obtain ⟨Q, hQ⟩ : ∃ Q : Al → Pc, (fun z => Pc.own 73 4 (.slice (some ⟨g, 0, none⟩) n sc) n (alC ((mpT (tkO b t) ol u).set u z))) = Q := ⟨_, rfl⟩
        have hget : Hid (∀ z V rest, SL V (Q z :: rest) → V.cell? ⟨g, u * 4, none⟩ = some (.int .u64 z.key) ∧ V.cell? ⟨g, u * 4 + 1, none⟩ = some (.int .i64 z.wait) ∧ V.cell? ⟨g, u * 4 + 2, none⟩ = some (.int .i64 z.left) ∧ V.cell? ⟨g, u * 4 + 3, none⟩ = some (.int .i64 z.rung) ∧ ∀ j, V.frozen? ⟨g, u * 4 + j, none⟩ = false) := Lib.hid fun z V rest h => by
          rw [← hQ] at h
          have hfz := own_free h
          have hl : ((mpT (tkO b t) ol u).set u z).length = n := by rw [List.length_set, hml]
          have hu' : u < ((mpT (tkO b t) ol u).set u z).length := by rw [hl]; exact hun
          dsimp only at h
          rw [← hl] at h
          obtain ⟨g', cap', e, -, q0, q1, q2, q3⟩ := own_alE h hu'
          cases e
          rw [List.getElem_set_self] at q0 q1 q2 q3
          exact ⟨q0, q1, q2, q3, fun j => hfz _⟩
        have hsto : Hid (∀ z z2 : Al, ∀ j v, j < 4 → z.c.set j v = z2.c → ∀ V rest, SL V (Q z :: rest) → SL (V.setCell ⟨g, u * 4 + j, none⟩ v) (Q z2 :: rest)) := Lib.hid fun z z2 j v hj hz V rest h => by
          rw [← hQ] at h ⊢
          have h5 := own_storeK h (u * 4 + j) v
          have h6 := alC_set (l := (mpT (tkO b t) ol u).set u z) (i := u) (by rw [List.length_set]; exact h1) j hj v z2 (by rw [List.getElem_set_self]; exact hz)
          rw [List.set_set] at h6
          rw [h6] at h5
          exact h5
        have hQ0 : Pc.own 73 4 (.slice (some ⟨g, 0, none⟩) n sc) n (alC (mpT (tkO b t) ol u)) = Q x := by
          rw [← hQ]
          dsimp only
          congr 2
          rw [← hx, ← h2]
          exact (List.set_getElem_self h1).symm
        have hQE : Hid (Pc.own 73 4 (.slice (some ⟨g, 0, none⟩) n sc) n (alC (mpT (tkO b t) ol (u + 1))) = Q (tkO b t (ol[u]'hul))) := Lib.hid (by rw [← hQ, ← hsucc.out])
        rw [hT.out] at hQE
        rw [if_pos hlt, hx] at hft
        rw [hx] at hlt hw1 hw2 hg1 hg2 g0 g1 g2 g3
        rw [hQ0] at hHC
        clear hR HC h3 h2 h1 hsucc hm hxk hT hml hQ hQ0 hx hal
        obtain ⟨k, wt, lf, rg⟩ := x
        dsimp only [decA] at hlt hw1 hw2 hg1 hg2 g0 g1 g2 g3 hft hQE
        subst hlt
        have hlb : (lf == lf) = true := by simp
        generalize hus : keysK ((ol.take u).filter (rgO lf)) = us at *
        go_wp2_with fail
        go_quiet (fail)
        have hH2 := Lib.hid (hHC.out.drewN nq)
        generalize wr.drewN nq = w2 at *
        clear hHC c3 c2 g0 g1 g2 g3 hlb
        have c3 := hH2.out.cell (b := y) (o := 3) (.there (.there (.here _ _))) rfl
        have g0 := (hget.out _ _ _ (hH2.out.re (.step (.there (.here _ _)) (.same _)))).1
        go_upto_region 8 with (
          at_builtin
          refine sl_app (hH2.out.alloc [.int .u64 k] 30) rfl _ _ _ rfl elemU _ rfl (.there (.here _ _)) (n := m) (xs := uv us) (m := 1) (c := 1) [.int .u64 k] rfl rfl (rd_newK _ _ _) (by simp [Value.oneCell']) (by simp only [maxLen]; omega) (by omega) (fun h => by cases h) ?_
          intro v' w7 H7 hnil
          obtain ⟨a3, c4, rfl, -⟩ := OwnK.slice H7.head
          have hH3 := Lib.hid (H7.re (.step (.there (.there (.here _ _))) (.step (.here _ _) (.drop (.same _)))))
          clear H7 hnil hH2 c3 g0)
        obtain ⟨-, -, -, g3, hfz⟩ := hget.out _ _ _ hH3.out
        have f3 := hfz 3
        have c3 := hH3.out.cell (b := y) (o := 3) (.there (.there (.here _ _))) rfl
        have hH4 := Lib.hid (hsto.out ⟨k, wt, lf, rg⟩ ⟨k, wt, lf, rg + 1⟩ 3 (.int .i64 (rg + 1)) (by omega) rfl _ _ hH3.out)
        clear hH3 hfz
        go_wp2_with fail
        generalize World.setCell _ ⟨g, u * 4 + 3, none⟩ (.int .i64 (rg + 1)) = w4 at *
        clear g3 f3 c3
        obtain ⟨-, g1, -, -, hfz⟩ := hget.out _ _ _ hH4.out
        have f1 := hfz 1
        have c3 := hH4.out.cell (b := y) (o := 3) (.there (.there (.here _ _))) rfl
        clear hfz
        dsimp only at g1
        have hww : IntKind.i64.wrap (wt + wt) = wt + wt := IntWalk.i64_in _ ⟨by omega, by omega⟩
        go_still_tail 24, (by kernel_rfl)
        change wpList _ _ _ _ _ w4.drew
        have hH5 := Lib.hid hH4.out.drew
        generalize w4.drew = w5 at *
        clear hH4 g1 f1 c3
        obtain ⟨-, g1, -, -, hfz⟩ := hget.out _ _ _ hH5.out
        have f1 := hfz 1
        have c3 := hH5.out.cell (b := y) (o := 3) (.there (.there (.here _ _))) rfl
        have hH6 := Lib.hid (hsto.out ⟨k, wt, lf, rg + 1⟩ ⟨k, wt + wt, lf, rg + 1⟩ 1 (.int .i64 (wt + wt)) (by omega) rfl _ _ hH5.out)
        clear hH5 hfz
        dsimp only at g1
        go_wp2_with fail
        generalize World.setCell _ ⟨g, u * 4 + 1, none⟩ (.int .i64 (wt + wt)) = w6 at *
        clear g1 f1 c3
        obtain ⟨-, g1, -, -, hfz⟩ := hget.out _ _ _ hH6.out
        have c3 := hH6.out.cell (b := y) (o := 3) (.there (.there (.here _ _))) rfl
        have c1 := hH6.out.cell (b := y) (o := 1) (.there (.there (.here _ _))) rfl
        dsimp only at g1
        clear hfz
        by_cases hgt : b < wt + wt
        · have hgb : decide (b < wt + wt) = true := by simpa using hgt
          go_quiet (fail)
          have hH7 := Lib.hid (hH6.out.drewN nq)
          generalize w6.drewN nq = w7 at *
          clear hH6 g1 c3 c1
          go_wp2_with fail
          clear hgb
          obtain ⟨-, g1, -, -, hfz⟩ := hget.out _ _ _ hH7.out
          have f1 := hfz 1
          have c3 := hH7.out.cell (b := y) (o := 3) (.there (.there (.here _ _))) rfl
          have c1 := hH7.out.cell (b := y) (o := 1) (.there (.there (.here _ _))) rfl
          clear hfz
          dsimp only at g1
          go_still_tail 11, (by kernel_rfl)
          change wpList _ _ _ _ _ w7.drew
          have hHa := Lib.hid hH7.out.drew
          generalize w7.drew = wa at *
          clear hH7 g1 f1 c3 c1
          obtain ⟨-, g1, -, -, hfz⟩ := hget.out _ _ _ hHa.out
          have f1 := hfz 1
          have c3 := hHa.out.cell (b := y) (o := 3) (.there (.there (.here _ _))) rfl
          have c1 := hHa.out.cell (b := y) (o := 1) (.there (.there (.here _ _))) rfl
          clear hfz
          dsimp only at g1
          have hH8 := Lib.hid (hsto.out ⟨k, wt + wt, lf, rg + 1⟩ ⟨k, b, lf, rg + 1⟩ 1 (.int .i64 b) (by omega) rfl _ _ hHa.out)
          clear hHa
          go_wp2_with fail
          generalize World.setCell _ ⟨g, u * 4 + 1, none⟩ (.int .i64 b) = w8 at *
          clear g1 f1 c3 c1
          obtain ⟨-, g1, g2, -, hfz⟩ := hget.out _ _ _ hH8.out
          have f2 := hfz 2
          have c3 := hH8.out.cell (b := y) (o := 3) (.there (.there (.here _ _))) rfl
          have c2 := hH8.out.cell (b := y) (o := 2) (.there (.there (.here _ _))) rfl
          clear hfz
          dsimp only at g1 g2
          have hwl : IntKind.i64.wrap (lf + b) = lf + b := IntWalk.i64_in _ ⟨by omega, by omega⟩
          have hmin : Hid (min (2 * wt) b = b) := Lib.hid (by omega)
          go_still_tail 20, (by kernel_rfl)
          change wpList _ _ _ _ _ w8.drew
          have hHb := Lib.hid hH8.out.drew
          generalize w8.drew = wb at *
          clear hH8 g1 g2 f2 c3 c2
          obtain ⟨-, g1, g2, -, hfz⟩ := hget.out _ _ _ hHb.out
          have f2 := hfz 2
          have c3 := hHb.out.cell (b := y) (o := 3) (.there (.there (.here _ _))) rfl
          have c2 := hHb.out.cell (b := y) (o := 2) (.there (.there (.here _ _))) rfl
          clear hfz
          dsimp only at g1 g2
          have hHe := Lib.hid (hsto.out ⟨k, b, lf, rg + 1⟩ ⟨k, b, lf + b, rg + 1⟩ 2 (.int .i64 (lf + b)) (by omega) rfl _ _ hHb.out)
          clear hHb
          go_wp2_with fail
          go_roundw
          case rel =>
            refine ⟨u + 1, m + 1, a3, c4, by omega, by go_num, rfl, by omega, Lib.hid ⟨?_, ?_⟩⟩
            · rw [hft.out, List.length_append, hm'.out]; rfl
            · rw [hft.out, uv_app, hQE.out, hmin.out]
              exact hHe.out.re (.step (.there (.here _ _)) (.same _))
          case measure => (simp [intOf]; try omega)
        · have hgb : decide (b < wt + wt) = false := by simpa using hgt
          go_quiet (fail)
          have hH8 := Lib.hid (hH6.out.drewN nq)
          generalize w6.drewN nq = w8 at *
          clear hH6 g1 c3 c1
          go_wp2_with fail
          clear hgb
          obtain ⟨-, g1, g2, -, hfz⟩ := hget.out _ _ _ hH8.out
          have f2 := hfz 2
          have c3 := hH8.out.cell (b := y) (o := 3) (.there (.there (.here _ _))) rfl
          have c2 := hH8.out.cell (b := y) (o := 2) (.there (.there (.here _ _))) rfl
          clear hfz
          dsimp only at g1 g2
          have hwl : IntKind.i64.wrap (lf + (wt + wt)) = lf + (wt + wt) := IntWalk.i64_in _ ⟨by omega, by omega⟩
          have hmin : Hid (min (2 * wt) b = (wt + wt)) := Lib.hid (by omega)
          go_still_tail 20, (by kernel_rfl)
          change wpList _ _ _ _ _ w8.drew
          have hHb := Lib.hid hH8.out.drew
          generalize w8.drew = wb at *
          clear hH8 g1 g2 f2 c3 c2
          obtain ⟨-, g1, g2, -, hfz⟩ := hget.out _ _ _ hHb.out
          have f2 := hfz 2
          have c3 := hHb.out.cell (b := y) (o := 3) (.there (.there (.here _ _))) rfl
          have c2 := hHb.out.cell (b := y) (o := 2) (.there (.there (.here _ _))) rfl
          clear hfz
          dsimp only at g1 g2
          have hHe := Lib.hid (hsto.out ⟨k, wt + wt, lf, rg + 1⟩ ⟨k, (wt + wt), lf + (wt + wt), rg + 1⟩ 2 (.int .i64 (lf + (wt + wt))) (by omega) rfl _ _ hHb.out)
          clear hHb
          go_wp2_with fail
          go_roundw
          case rel =>
            refine ⟨u + 1, m + 1, a3, c4, by omega, by go_num, rfl, by omega, Lib.hid ⟨?_, ?_⟩⟩
            · rw [hft.out, List.length_append, hm'.out]; rfl
            · rw [hft.out, uv_app, hQE.out, hmin.out]
              exact hHe.out.re (.step (.there (.here _ _)) (.same _))
          case measure => (simp [intOf]; try omega)
      · rw [if_neg hlt, List.append_nil] at hft
        have hset : Hid (mpT (tkO b t) ol (u + 1) = mpT (tkO b t) ol u) := Lib.hid (by
          rw [← hsucc.out, show tkO b t (ol[u]'hul) = ol[u]'hul from if_neg hlt]
          conv => lhs; rw [← h2]
          exact List.set_getElem_self h1)
        have hlb : ((ol[u]'hul).left == t) = false := by simpa using hlt
        clear hR HC h3 h2 hsucc hm g0 g1 g3 hw1 hw2 hg1 hg2 hxk
        go_wp2_with fail
        go_quiet (fail)
        have hH2 := Lib.hid (hHC.out.drewN nq)
        clear hHC c3 c2 g2
        go_wp2_with fail
        go_roundw
        case rel => exact ⟨u + 1, m, la, lc, by omega, by go_num, rfl, by omega, Lib.hid ⟨by rw [hft.out]; exact hm'.out, by rw [hft.out, hset.out]; exact hH2.out⟩⟩
        case measure => (simp [intOf]; try omega)
    · obtain rfl : u = n := by omega
      have hR2 := hR
      rw [List.take_of_length_le (by rw [hn'.out]; exact Nat.le_refl _), show mpT (tkO b t) ol u = ol.map (tkO b t) by rw [← hn'.out]; exact mpT_end _ _] at hR2
      obtain ⟨hm2, HC2⟩ := hR2.out
      have hso := Lib.hid (sorted_c HC2 (by omega))
      have hmr : Hid (m = (ringsK s.l).length) := Lib.hid (by rw [hn0.out, hm2])
      clear hR hR2 HC HC2 hm hm2 hn0
      go_wp2_with fail
      refine hso.out.mono ?_
      rintro e w5 ⟨a, c, o, rfl, hp, hs, H5⟩
      obtain rfl := srt_uniq (hp.trans hrp'.out) hs hrs'.out
      have hf := Lib.hid (hfin.out _ _ _ _ hmr.out (H5.re (.step (.here _ _) (.drop (.same _)))))
      clear hso H5 hfin hp hs
      go_wp2_with fail
      go_ret
      rw [hmr.out]
      exact ⟨_, _, rfl, hf.out⟩
end
end Go.Proofs.Ytcjmkpphohkofaa
