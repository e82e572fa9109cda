/- The walk of AlarmDrops. -/
import Derived.Test.YtcjmkpphohkofaaDropsL
import Derived.Test.YtcjmkpphohkofaaBv
import Derived.Deep.CutBlock
import Derived.Deep.CutRange
namespace Go.Proofs.Ytcjmkpphohkofaa
open Go.RowKit Go.Shelf
set_option linter.unusedVariables false

theorem wf_u64 {z : Int} (h : (Lit.int .u64 z).wf = true) : u64k z := by
  simp [Lit.wf, IntKind.min, IntKind.max, IntKind.signed, IntKind.bits] at h
  unfold u64k
  omega

set_option maxRecDepth 100000 in
set_option maxHeartbeats 16000000 in
theorem drops_c (fi : Int) (x : Option Addr) (xl xc : Nat) (zs : List Int) (k : Int) (w : World) (hfi : 0 ≤ fi ∧ fi ≤ 255) (hx : IsRow .u64 w x xl xc zs) (hk : u64k k) :
    Calls Try.prog 5 #[.int .u8 fi, .slice x xl xc, .int .u64 k] w fun e w' => e = .returned (.bool true) ∧ Kp no w w' := by
  have hal := Lib.hid (alive_c (SL.start w))
  have hx' := Lib.hid hx
  have hxl : xl ≤ 9223372036854775807 := by
    rcases hx with ⟨_, rfl, _⟩ | ⟨_, _, h1, h2, _⟩
    · omega
    · simp only [maxLen] at h2; omega
  have hk' := Lib.hid hk
  clear hx hk
  obtain ⟨a, ha⟩ : ∃ a : Nat, (1 : Int) + fi % 60 = a := ⟨(1 + fi % 60).toNat, by omega⟩
  have t1 : fi.tmod 60 = fi % 60 := Int.tmod_eq_emod_of_nonneg hfi.1
  have ha1 : 1 ≤ a ∧ a ≤ 60 := by omega
  go_enter Try.func5, Try.ntmps5
  go_wp2_with fail
  refine hal.out.mono ?_
  rintro e w1 ⟨rfl, H1⟩
  have hk1 := Lib.hid (H1.kp (.here _ _))
  have hnew := Lib.hid (new_c a (2 * a) (by omega) (by omega) H1)
  clear hal H1
  by_cases hbig : 200 < xl
  · go_wp2_with fail
    go_ret
    exact ⟨rfl, hk1.out⟩
  have hxl2 : xl ≤ 200 := by omega
  clear hbig hxl hk1
  go_wp2_with fail
  refine hnew.out.mono ?_
  rintro e w2 ⟨p, rfl, H2⟩
  have hB : Hid (∃ s, CAt (0 : Nat) p s [.old w no] w2) := Lib.hid ⟨_, H2⟩
  clear hnew H2 t1 ha
  unfold ptrV at *
  go_wp2_with fail
  go_loopw [52] (fun i V => ∃ j : Nat, j ≤ xl ∧ i = .int .i64 j ∧ Hid (∃ s, CAt (j : Nat) p s [.old w no] V)) (fun i _ => xl - (intOf i).toNat)
  case atStart => exact ⟨0, by omega, rfl, hB⟩
  case round =>
    clear hB
    obtain ⟨j, hj, rfl, hR⟩ := hrel
    by_cases hjx : j < xl
    · obtain ⟨s, NN⟩ := hR.out
      rcases hx'.out.plain with h0 | ⟨bx, ox, e, h1, h2, h3, h4, h5, h6⟩
      · omega
      have cx : wr.cell? ⟨bx, ox + j, none⟩ = some (.int .u64 (zs.getD j 0)) := (NN.tail.kp (.here _ _)).cell (h5 j (by omega)) (fun h => h)
      have hyk : u64k (zs.getD j 0) := by
        rw [List.getD_eq_getElem?_getD, List.getElem?_eq_getElem (by omega)]
        exact wf_u64 (h6 _ (List.getElem_mem _))
      have hset := Lib.hid (set_c NN (by omega) hyk)
      generalize zs.getD j 0 = y at *
      have hxc : j + 1 ≤ xc := by omega
      subst e
      clear h1 h2 h3 h4 h5 h6 hR NN hyk
      unfold ptrV at *
      go_wp2_with fail
      refine hset.out.mono ?_
      rintro e w3 ⟨rfl, H3⟩
      have ht := Lib.hid (tick_c H3 (by omega))
      have hH3 := Lib.hid (H3.mono (show ((j : Nat) : Int) ≤ ((j + 1 : Nat) : Int) by omega))
      obtain ⟨m3, hm3⟩ : ∃ m3 : Nat, j % 3 = m3 := ⟨_, rfl⟩
      have hm3' : ((j : Int)).tmod 3 = (m3 : Int) := by rw [Int.tmod_eq_emod_of_nonneg (by omega), ← hm3]; rfl
      clear hset H3 cx
      generalize setE s y = E at *
      generalize setS s y = s2 at *
      by_cases h0 : m3 = 0
      · subst h0
        unfold ptrV at *
        go_wp2_with fail
        refine ht.out.mono ?_
        rintro e w4 ⟨a4, c4, rfl, H4⟩
        have hf := Lib.hid (H4.re (.drop (.same _)))
        clear ht H4 hH3
        go_wp2_with fail
        go_roundw
        case rel => exact ⟨j + 1, by omega, by go_num, Lib.hid ⟨_, hf.out⟩⟩
        case measure => (simp [intOf]; try omega)
      · have h0b : ((m3 : Int) == 0) = false := by simp; omega
        clear ht
        go_wp2_with fail
        go_roundw
        case rel => exact ⟨j + 1, by omega, by go_num, Lib.hid ⟨_, hH3.out⟩⟩
        case measure => (simp [intOf]; try omega)
    · obtain rfl : j = xl := by omega
      obtain ⟨s, NN⟩ := hR.out
      have hok := Lib.hid NN.ok
      have hcp := Lib.hid (copy_c NN)
      clear hR NN hx'
      unfold ptrV at *
      go_wp2_with fail
      refine hcp.out.mono ?_
      rintro e w3 ⟨q, q1, rfl, H3⟩
      have hcp2 := Lib.hid (copy_c H3)
      clear hcp H3
      unfold ptrV at *
      go_wp2_with fail
      refine hcp2.out.mono ?_
      rintro e w4 ⟨r, r1, rfl, H4⟩
      have hC := Lib.hid (C3.of H4 hok.out hok.out)
      have hbe := Lib.hid (hC.out.lift0 (Int.le_refl _) fun L' h => below_c h k)
      rw [show ({ s with l := fromK s.l k } : Ck) = belowS s k from rfl] at hbe
      clear hcp2 H4 hC
      unfold ptrV at *
      go_wp2_with fail
      refine hbe.out.mono ?_
      rintro e w5 ⟨rfl, H5⟩
      have hky := Lib.hid (H5.rot.rot.liftS (Int.le_refl _) fun L' h => keys_c h)
      obtain ⟨n, hn⟩ : ∃ n, s.l.length = n := ⟨_, rfl⟩
      have hn' := Lib.hid hn
      have hnl : n ≤ 256 := by rw [← hn]; exact hok.out.len
      have hkl : (keysK s.l).length = n := by rw [← hn]; simp [keysK]
      have hkl' := Lib.hid hkl
      rw [hn] at hky ⊢
      clear hbe H5 hn hkl
      unfold ptrV at *
      go_wp2_with fail
      refine hky.out.mono ?_
      rintro e w6 ⟨ka, kc, rfl, H6⟩
      have hH6 : Hid (C3 (j : Nat) q ⟨s.a, s.b, dropTo s.l k 0⟩ p (belowS s k) r s (.own 30 1 (.slice ka n kc) n (uv (keysK s.l)) :: .own 30 1 (.slice none 0 0) 0 (uv (((keysK s.l).take 0).filter (geK k))) :: [.old w no]) w6) := Lib.hid (by
        have h := H6.map fun N h => (h.pure (q := .own 30 1 (.slice none 0 0) 0 []) (OwnK.nil _ _ _ _) (fun b h => by cases h)).perm (List.perm_middle.symm : (_ :: (N ++ _)).Perm (N ++ _ :: _))
        exact h.re (.step (.there (.here _ _)) (.same _)))
      clear hky H6
      go_wp2_with fail
      go_loopw [77, 15, 16] (fun i x y V => ∃ (u m g : Nat) (la : Option Addr) (lc : Nat), u ≤ n ∧ i = .int .i64 u ∧ x = .slice la m lc ∧ y = .int .i64 g ∧ m ≤ u ∧ g ≤ u ∧ Hid ((((keysK s.l).take u).filter (geK k)).length = m ∧ (((keysK s.l).take u).filter fun z => !geK k z).length = g ∧ C3 (j : Nat) q ⟨s.a, s.b, dropTo s.l k u⟩ p (belowS s k) r s (.own 30 1 (.slice ka n kc) n (uv (keysK s.l)) :: .own 30 1 (.slice la m lc) m (uv (((keysK s.l).take u).filter (geK k))) :: [.old w no]) V)) (fun i _ _ _ => n - (intOf i).toNat)
      case atStart => exact ⟨0, 0, 0, none, 0, by omega, rfl, rfl, rfl, by omega, by omega, Lib.hid ⟨by simp, by simp, hH6.out⟩⟩
      case round =>
        clear hH6
        obtain ⟨u, m, g, la, lc, hu, rfl, rfl, rfl, hmu, hgu, hR⟩ := hrel
        by_cases hun : u < n
        · have hkl2 : u < (keysK s.l).length := by rw [hkl'.out]; exact hun
          have hsl : u < s.l.length := by rw [hn'.out]; exact hun
          obtain ⟨hm, hg, HC⟩ := hR.out
          obtain ⟨a', c', e1, -, hcc, hrd⟩ := own_u64 HC.tail
          simp only [Value.slice.injEq] at e1
          obtain ⟨rfl, -, rfl⟩ := e1
          obtain ⟨b1, o1, rfl, g1⟩ := hrd u hkl2
          have hky2 : (keysK s.l)[u]'hkl2 = (s.l[u]'hsl).key := by simp [keysK]
          have hft1 := Lib.hid (filter_take_succ hkl2 (geK k))
          have hft2 := Lib.hid (filter_take_succ hkl2 fun z => !geK k z)
          have hkeep := Lib.hid (dropTo_keep (k := k) hsl)
          have hgone := Lib.hid (dropTo_gone hok.out.srt (k := k) hsl)
          rw [hky2] at g1 hft1 hft2
          rw [hkl'.out] at hcc
          generalize (s.l[u]'hsl).key = y at *
          have hHC := Lib.hid HC
          have hm' := Lib.hid hm
          have hg' := Lib.hid hg
          clear hR HC hrd hm hg hky2
          by_cases hyk : y < k
          · have hge : geK k y = false := by simp [geK, hyk]
            rw [hge] at hft1 hft2
            obtain ⟨d1, d2⟩ := hgone.out hyk
            have hdr := Lib.hid (hHC.out.lift0 (Int.le_refl _) fun L' h => drop_c h y)
            rw [show hasE ⟨s.a, s.b, dropTo s.l k u⟩ y = 0 from by unfold hasE; rw [if_pos d1], show dropS ⟨s.a, s.b, dropTo s.l k u⟩ y = ⟨s.a, s.b, dropTo s.l k (u + 1)⟩ from by unfold dropS; dsimp only; rw [d2]] at hdr
            clear hHC hgone hkeep d1 d2 hkl2 hsl hge
            unfold ptrV at *
            go_wp2_with fail
            refine hdr.out.mono ?_
            rintro e w7 ⟨rfl, H7⟩
            have hf := Lib.hid H7
            clear hdr H7 g1
            go_wp2_with fail
            go_roundw
            case rel =>
              refine ⟨u + 1, m, g + 1, la, lc, by omega, by go_num, rfl, by go_num, by omega, by omega, Lib.hid ⟨?_, ?_, ?_⟩⟩
              · rw [hft1.out]; simpa using hm'.out
              · rw [hft2.out, List.length_append, hg'.out]; rfl
              · rw [hft1.out]; simpa using hf.out
            case measure => (simp [intOf]; try omega)
          · have hge : geK k y = true := by simp [geK, hyk]
            rw [hge] at hft1 hft2
            have hke := hkeep.out hyk
            obtain ⟨M, hM, hback⟩ := (hHC.out.re (.step (.there (.here _ _)) (.same _))).pull
            have hM' := Lib.hid hM
            have hback' := Lib.hid hback
            clear hHC hgone hkeep hkl2 hsl hge hM hback
            go_wp2_with (
              at_builtin
              refine sl_app (hM'.out.alloc [.int .u64 y] 30) rfl _ _ _ rfl elemU _ rfl (.there (.here _ _)) [.int .u64 y] rfl rfl (rd_newK _ _ _) (by simp [Value.oneCell']) (by simp only [maxLen]; omega) (by omega) (fun h => by cases h) ?_
              intro v' w7 H5 hnil
              obtain ⟨a3, c3, rfl, -⟩ := OwnK.slice H5.head
              have hH5 := Lib.hid ((hback'.out w7 (.own 30 1 (.slice a3 (m + 1) c3) (m + 1) (uv (((keysK s.l).take u).filter (geK k)) ++ [.int .u64 y]) :: .own 30 1 (.slice (some ⟨b1, o1, none⟩) n kc) n (uv (keysK s.l)) :: [.old w no]) ((H5.re (.step (.here _ _) (.drop (.same _)))).perm List.perm_middle.symm)).re (.step (.there (.here _ _)) (.same _)))
              clear H5 hnil hM' hback' g1)
            go_roundw
            case rel =>
              refine ⟨u + 1, m + 1, g, a3, c3, by omega, by go_num, rfl, rfl, by omega, by omega, Lib.hid ⟨?_, ?_, ?_⟩⟩
              · rw [hft1.out, List.length_append, hm'.out]; rfl
              · rw [hft2.out]; simpa using hg'.out
              · rw [hft1.out, hke]
                have e : uv (((keysK s.l).take u).filter (geK k) ++ [y]) = uv (((keysK s.l).take u).filter (geK k)) ++ [.int .u64 y] := by unfold uv; rw [List.map_append]; rfl
                rw [if_pos rfl, e]
                exact hH5.out
            case measure => (simp [intOf]; try omega)
        · obtain rfl : u = n := by omega
          have hR2 := hR
          rw [List.take_of_length_le (by rw [hkl'.out]; exact Nat.le_refl _)] at hR2
          obtain ⟨hm, hg, HC⟩ := hR2.out
          have hde : dropTo s.l k u = fromK s.l k := by rw [← hn'.out]; exact dropTo_end s.l k
          rw [hde, show (⟨s.a, s.b, fromK s.l k⟩ : Ck) = belowS s k from rfl] at HC
          have hkf : Hid ((keysK s.l).filter (geK k) = keysK (belowS s k).l) := Lib.hid (keys_from s.l k).symm
          rw [hkf.out] at hm HC
          have hgl : Hid (u - (belowS s k).l.length = g) := Lib.hid (by
            rw [← hg, gone_len, hkl'.out, hkf.out]
            simp [keysK])
          have hml : Hid ((belowS s k).l.length = m) := Lib.hid (by rw [← hm]; simp [keysK])
          have hkm : Hid ((keysK (belowS s k).l).length = m) := Lib.hid hm
          have hx := Lib.hid (HC.rot.liftS (Int.le_refl _) fun L' h => keys_c h)
          rw [show (fromK s.l k).length = (belowS s k).l.length from rfl, hgl.out]
          rw [hml.out] at hx
          clear hR hR2 hm hg HC hde
          unfold ptrV at *
          go_wp2_with fail
          refine hx.out.mono ?_
          rintro e w7 ⟨xa, xc2, rfl, H7⟩
          have hy := Lib.hid (H7.rot.rot.liftS (Int.le_refl _) fun L' h => keys_c h)
          rw [hml.out] at hy
          clear hx H7
          unfold ptrV at *
          go_wp2_with fail
          refine hy.out.mono ?_
          rintro e w8 ⟨ya, yc, rfl, H8⟩
          obtain ⟨y1, y2, e1, -, hc1, hr1⟩ := own_u64 H8.tail
          obtain ⟨x1, x2, e2, -, hc2, hr2⟩ := own_u64 H8.tail.tail
          obtain ⟨l1, l2, e3, -, hc3, hr3⟩ := own_u64 (H8.tail.tail.tail.tail)
          simp only [Value.slice.injEq] at e1 e2 e3
          obtain ⟨rfl, -, rfl⟩ := e1
          obtain ⟨rfl, -, rfl⟩ := e2
          obtain ⟨rfl, -, rfl⟩ := e3
          have hkm256 : (keysK (belowS s k).l).length ≤ 1000000 := by rw [hkm.out]; omega
          have hn1 := Lib.hid (numbers_c _ hkm256 xa la xc2 lc w8 hr2 hr3 hc2 hc3)
          have hn2 := Lib.hid (fun V (hk : Kp no w8 V) => numbers_c _ hkm256 ya la yc lc V (hr1.no hk) (hr3.no hk) hc1 hc3)
          rw [hkm.out] at hn1 hn2
          have hH8 := Lib.hid (H8.re (.drop (.drop (.drop (.drop (.same _))))))
          clear hy H8 hc1 hc2 hc3 hr1 hr2 hr3 hkm256
          go_wp2_with fail
          refine hn1.out.mono ?_
          rintro e w9 ⟨rfl, hk9⟩
          have hn3 := Lib.hid (hn2.out _ hk9)
          have hH9 := Lib.hid (hH8.out.quiet hk9)
          clear hn1 hn2 hk9 hH8
          go_wp2_with fail
          refine hn3.out.mono ?_
          rintro e w10 ⟨rfl, hk10⟩
          have hL : Hid (∃ st : Ck, C3 (200 + 3 * (0 : Nat)) q (belowS st k) p (belowS st k) r st [.old w no] w10) := Lib.hid ⟨s, (hH9.out.quiet hk10).mono (by omega)⟩
          clear hn3 hH9 hk10 hkf hgl hml hkm hn' hkl' hok
          go_wp2_with fail
          go_loopw [21] (fun i V => ∃ t : Nat, t ≤ 200 ∧ i = .int .i64 t ∧ Hid (∃ st : Ck, C3 (200 + 3 * (t : Nat)) q (belowS st k) p (belowS st k) r st [.old w no] V)) (fun i _ => 200 - (intOf i).toNat)
          case atStart => exact ⟨0, by omega, rfl, hL⟩
          case round =>
            clear hL
            obtain ⟨t, ht, rfl, hR⟩ := hrel
            by_cases htn : t < 200
            · obtain ⟨st, HC⟩ := hR.out
              have hle : (ringsK st.l).length ≤ 256 := by
                obtain ⟨a1, a2, a3, -, -, -, h⟩ := HC
                unfold ringsK keysK
                rw [List.length_map]
                exact Nat.le_trans (List.length_filter_le _ _) h.len
              have hrf : ringsK (belowS st k).l = (ringsK st.l).filter (geK k) := rings_from st.l k
              have h1 := Lib.hid (HC.rot.liftS (R' := 200 + 3 * (t : Nat) + 1) (by omega) fun L' h => tick_c h (by omega))
              have h2 := Lib.hid (fun V L s2 s3 (h : C3 (200 + 3 * (t : Nat) + 1) q (belowS st k) p s2 r s3 L V) => h.liftS (R' := 200 + 3 * (t : Nat) + 2) (by omega) fun L' h => (tick_c h (by omega)).mono fun e w' ⟨a, c, x1, x2⟩ => ⟨a, c, x1, x2.mono (by omega)⟩)
              have h3 := Lib.hid (fun V L s1 s2 (h : C3 (200 + 3 * (t : Nat) + 2) r st q s1 p s2 L V) => h.liftS (R' := 200 + 3 * (t : Nat) + 3) (by omega) fun L' h => (tick_c h (by omega)).mono fun e w' ⟨a, c, x1, x2⟩ => ⟨a, c, x1, x2.mono (by omega)⟩)
              rw [tick_from, hrf] at h1 h2
              obtain ⟨rk, hrk⟩ : ∃ rk, ringsK st.l = rk := ⟨_, rfl⟩
              rw [hrk] at h1 h2 h3 hle
              obtain ⟨m3, hm3⟩ : ∃ m3, (rk.filter (geK k)).length = m3 := ⟨_, rfl⟩
              have hm3' := Lib.hid hm3
              have hm3l : m3 ≤ 256 := by rw [← hm3]; exact Nat.le_trans (List.length_filter_le _ _) hle
              obtain ⟨n3, hn3⟩ : ∃ n3, rk.length = n3 := ⟨_, rfl⟩
              have hn3' := Lib.hid hn3
              rw [hm3] at h1 h2
              rw [hn3] at h3 hle
              obtain ⟨st2, hst2⟩ : ∃ st2, tickS st = st2 := ⟨_, rfl⟩
              rw [hst2] at h1 h2 h3
              clear hR HC hrf hrk hm3 hn3 hst2
              unfold ptrV at *
              go_wp2_with fail
              refine h1.out.mono ?_
              rintro e v1 ⟨aa, ac, rfl, H1⟩
              have h2 := Lib.hid (h2.out _ _ _ _ H1.rot.rot)
              clear h1 H1
              go_wp2_with fail
              refine h2.out.mono ?_
              rintro e v2 ⟨ba, bc, rfl, H2⟩
              have h3 := Lib.hid (h3.out _ _ _ _ H2.rot.rot)
              clear h2 H2
              go_wp2_with fail
              refine h3.out.mono ?_
              rintro e v3 ⟨wa, wcap, rfl, H3⟩
              have hH3 : Hid (C3 (200 + 3 * (t : Nat) + 3) q (belowS st2 k) p (belowS st2 k) r st2 (.own 30 1 (.slice none 0 0) 0 (uv ((rk.take 0).filter (geK k))) :: .own 30 1 (.slice wa n3 wcap) n3 (uv rk) :: .own 30 1 (.slice ba m3 bc) m3 (uv (rk.filter (geK k))) :: .own 30 1 (.slice aa m3 ac) m3 (uv (rk.filter (geK k))) :: [.old w no]) v3) := Lib.hid (H3.rot.map fun N h => (h.pure (q := .own 30 1 (.slice none 0 0) 0 []) (OwnK.nil _ _ _ _) (fun b h => by cases h)).perm (List.perm_middle.symm : (_ :: (N ++ _)).Perm (N ++ _ :: _)))
              clear h3 H3
              go_wp2_with fail
              go_loopw [126, 25] (fun i x V => ∃ (v m : Nat) (la : Option Addr) (lc : Nat), v ≤ n3 ∧ i = .int .i64 v ∧ x = .slice la m lc ∧ m ≤ v ∧ Hid (((rk.take v).filter (geK k)).length = m ∧ C3 (200 + 3 * (t : Nat) + 3) q (belowS st2 k) p (belowS st2 k) r st2 (.own 30 1 (.slice la m lc) m (uv ((rk.take v).filter (geK k))) :: .own 30 1 (.slice wa n3 wcap) n3 (uv rk) :: .own 30 1 (.slice ba m3 bc) m3 (uv (rk.filter (geK k))) :: .own 30 1 (.slice aa m3 ac) m3 (uv (rk.filter (geK k))) :: [.old w no]) V)) (fun i _ _ => n3 - (intOf i).toNat)
              case atStart => exact ⟨0, 0, none, 0, by omega, rfl, rfl, by omega, Lib.hid ⟨by simp, hH3.out⟩⟩
              case round =>
                clear hH3
                obtain ⟨v, m, la, lc, hv, rfl, rfl, hmv, hR⟩ := hrel
                by_cases hvn : v < n3
                · have hkl2 : v < rk.length := by rw [hn3'.out]; exact hvn
                  obtain ⟨hm, HC⟩ := hR.out
                  obtain ⟨a', c', e1, -, hcc, hrd⟩ := own_u64 HC.tail.tail
                  simp only [Value.slice.injEq] at e1
                  obtain ⟨rfl, -, rfl⟩ := e1
                  obtain ⟨b1, o1, rfl, g1⟩ := hrd v hkl2
                  have hft1 := Lib.hid (filter_take_succ hkl2 (geK k))
                  rw [hn3'.out] at hcc
                  generalize rk[v]'hkl2 = y at *
                  obtain ⟨M, hM, hback⟩ := HC.pull
                  have hHC := Lib.hid HC
                  have hM' := Lib.hid hM
                  have hback' := Lib.hid hback
                  have hm' := Lib.hid hm
                  clear hR HC hrd hm hkl2 hM hback
                  by_cases hyk : y < k
                  · have hge : geK k y = false := by simp [geK, hyk]
                    rw [hge] at hft1
                    clear hM' hback' hge
                    go_wp2_with fail
                    go_roundw
                    case rel =>
                      refine ⟨v + 1, m, la, lc, by omega, by go_num, rfl, by omega, Lib.hid ⟨?_, ?_⟩⟩
                      · rw [hft1.out]; simpa using hm'.out
                      · rw [hft1.out]; simpa using hHC.out
                    case measure => (simp [intOf]; try omega)
                  · have hge : geK k y = true := by simp [geK, hyk]
                    rw [hge, if_pos rfl] at hft1
                    clear hHC hge
                    generalize (rk.take v).filter (geK k) = us at *
                    go_wp2_with (
                      at_builtin
                      refine sl_app (hM'.out.alloc [.int .u64 y] 30) rfl _ _ _ rfl elemU _ rfl (.there (.here _ _)) [.int .u64 y] rfl rfl (rd_newK _ _ _) (by simp [Value.oneCell']) (by simp only [maxLen]; omega) (by omega) (fun h => by cases h) ?_
                      intro v' w7 H5 hnil
                      obtain ⟨a3, c3, rfl, -⟩ := OwnK.slice H5.head
                      have hH5 := Lib.hid (hback'.out w7 (.own 30 1 (.slice a3 (m + 1) c3) (m + 1) (uv us ++ [.int .u64 y]) :: _) ((H5.re (.step (.here _ _) (.drop (.same _)))).perm List.perm_middle.symm))
                      clear H5 hnil hM' hback' g1)
                    go_roundw
                    case rel =>
                      refine ⟨v + 1, m + 1, a3, c3, by omega, by go_num, rfl, by omega, Lib.hid ⟨?_, ?_⟩⟩
                      · rw [hft1.out, List.length_append, hm'.out]; rfl
                      · have e : uv (us ++ [y]) = uv us ++ [.int .u64 y] := by unfold uv; rw [List.map_append]; rfl
                        rw [hft1.out, e]
                        exact hH5.out
                    case measure => (simp [intOf]; try omega)
                · obtain rfl : v = n3 := by omega
                  have hR2 := hR
                  rw [List.take_of_length_le (by rw [hn3'.out]; exact Nat.le_refl _), hm3'.out] at hR2
                  obtain ⟨hm, HC⟩ := hR2.out
                  subst hm
                  obtain ⟨l1, l2, e3, -, hc3, hr3⟩ := own_u64 HC.tail
                  obtain ⟨y1, y2, e1, -, hc1, hr1⟩ := own_u64 HC.tail.tail.tail
                  obtain ⟨x1, x2, e2, -, hc2, hr2⟩ := own_u64 HC.tail.tail.tail.tail
                  simp only [Value.slice.injEq] at e1 e2 e3
                  obtain ⟨rfl, -, rfl⟩ := e1
                  obtain ⟨rfl, -, rfl⟩ := e2
                  obtain ⟨rfl, -, rfl⟩ := e3
                  have hl256 : (rk.filter (geK k)).length ≤ 1000000 := by rw [hm3'.out]; omega
                  have hn1 := Lib.hid (numbers_c _ hl256 aa ba ac bc wr hr2 hr1 hc2 hc1)
                  have hn2 := Lib.hid (fun V (hk : Kp no wr V) => numbers_c _ hl256 aa la ac lc V (hr2.no hk) (hr3.no hk) hc2 hc3)
                  rw [hm3'.out] at hn1 hn2
                  have hH8 := Lib.hid (HC.re (.drop (.drop (.drop (.drop (.same _))))))
                  clear hR hR2 HC hc1 hc2 hc3 hr1 hr2 hr3 hl256
                  go_wp2_with fail
                  refine hn1.out.mono ?_
                  rintro e w9 ⟨rfl, hk9⟩
                  have hn3 := Lib.hid (hn2.out _ hk9)
                  have hH9 := Lib.hid (hH8.out.quiet hk9)
                  clear hn1 hn2 hk9 hH8
                  go_wp2_with fail
                  refine hn3.out.mono ?_
                  rintro e w10 ⟨rfl, hk10⟩
                  have hL : Hid (∃ st : Ck, C3 (200 + 3 * ((t + 1 : Nat) : Int)) q (belowS st k) p (belowS st k) r st [.old w no] w10) := Lib.hid ⟨st2, (hH9.out.quiet hk10).mono (by omega)⟩
                  clear hn3 hH9 hk10
                  go_wp2_with fail
                  go_roundw
                  case rel => exact ⟨t + 1, by omega, by go_num, hL⟩
                  case measure => (simp [intOf]; try omega)
            · obtain rfl : t = 200 := by omega
              obtain ⟨st, HC⟩ := hR.out
              have hf := Lib.hid (HC.tail.kp (.here _ _))
              clear hR HC
              go_wp2_with fail
              go_ret
              exact ⟨rfl, hf.out⟩
theorem walkDrops (fi : Int) (x : Option Addr) (xl xc : Nat) (zs : List Int) (k : Int) (w : World) (w0 : (Lit.int .u8 fi).wf = true) (w1 : IsRow .u64 w x xl xc zs) (w2 : (Lit.int .u64 k).wf = true) :
    Calls Try.prog 5 #[.int .u8 fi, .slice x xl xc, .int .u64 k] w fun r w' => r = .returned (.bool true) ∧ Below w.heap.size w w' :=
  (drops_c fi x xl xc zs k w (wf_u8 w0) w1 (wf_u64 w2)).mono fun _ _ ⟨h1, h2⟩ => ⟨h1, h2.self_below⟩
end Go.Proofs.Ytcjmkpphohkofaa
