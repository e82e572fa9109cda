/- The walk of AlarmNext. -/
import Derived.Test.YtcjmkpphohkofaaNextL
import Derived.Test.YtcjmkpphohkofaaBv
import Derived.Deep.CutBlock
import Derived.Deep.CutRange
namespace Go.Proofs.Ytcjmkpphohkofaa
open Go.RowKit Go.Shelf
set_option linter.unusedVariables false

set_option maxRecDepth 100000 in
set_option maxHeartbeats 16000000 in
theorem anext_c (fi lo : Int) (x : Option Addr) (xl xc : Nat) (f : Nat → OpI) (w : World) (hfi : 0 ≤ fi ∧ fi ≤ 255) (hlo : 0 ≤ lo ∧ lo ≤ 255) (hf : RdOps w x xl f) (hxl : xl ≤ 9223372036854775807) (hxc : xl ≤ xc) :
    Calls Try.prog 4 #[.int .u8 fi, .int .u8 lo, .slice x xl xc] w fun e w' => e = .returned (.bool true) ∧ Kp no w w' := by
  have hal := Lib.hid (alive_c (SL.start w))
  have hf' := Lib.hid hf
  clear hf
  obtain ⟨a, ha⟩ : ∃ a : Nat, (1 : Int) + fi % 60 = a := ⟨(1 + fi % 60).toNat, by omega⟩
  obtain ⟨b, hb⟩ : ∃ b : Nat, (a : Int) + lo % 60 = b := ⟨((a : Int) + lo % 60).toNat, by omega⟩
  have t1 : fi.tmod 60 = fi % 60 := Int.tmod_eq_emod_of_nonneg hfi.1
  have t2 : lo.tmod 60 = lo % 60 := Int.tmod_eq_emod_of_nonneg hlo.1
  have ha1 : 1 ≤ a ∧ a ≤ 60 := by omega
  have hb1 : a ≤ b ∧ b ≤ 120 := by omega
  go_enter Try.func4, Try.ntmps4
  go_wp2_with fail
  refine hal.out.mono ?_
  rintro e w1 ⟨rfl, H1⟩
  have hk1 := Lib.hid (H1.kp (.here _ _))
  have hnew := Lib.hid (new_c a b (by omega) (by omega) H1)
  clear hal H1
  by_cases hbig : 100 < xl
  · go_wp2_with fail
    go_ret
    exact ⟨rfl, hk1.out⟩
  have hxl2 : xl ≤ 100 := by omega
  clear hbig hxl hk1
  go_wp2_with fail
  refine hnew.out.mono ?_
  rintro e w2 ⟨p, rfl, H2⟩
  have hB : Hid (∃ s, CAt (15 * (0 : Nat)) p s [.old w no] w2) := Lib.hid ⟨_, H2⟩
  clear hnew H2 t1 t2 ha hb
  unfold ptrV at *
  go_wp2_with fail
  go_loopw [48] (fun i V => ∃ j : Nat, j ≤ xl ∧ i = .int .i64 j ∧ Hid (∃ s, CAt (15 * (j : Nat)) p s [.old w no] V)) (fun i _ => xl - (intOf i).toNat)
  case atStart => exact ⟨0, by omega, rfl, hB⟩
  case round =>
    clear hB
    obtain ⟨j, hj, rfl, hR⟩ := hrel
    by_cases hjx : j < xl
    · obtain ⟨s, NN⟩ := hR.out
      obtain ⟨bx, ox, e, hok, c0, c1, c2⟩ := (hf'.out.no (NN.tail.kp (.here _ _))) j hjx
      have hkk := hok.key
      generalize f j = o at *
      obtain ⟨kd, ky, nn⟩ := o
      dsimp only at *
      have hup : Hid (∀ s V R, R ≤ 15 * (j : Int) + 15 → CAt R p s [.old w no] V → Hid (∃ s, CAt (15 * ((j + 1 : Nat) : Int)) p s [.old w no] V)) := Lib.hid fun s V R hR h => Lib.hid ⟨s, h.mono (by omega)⟩
      have hxc1 : j + 1 ≤ xc := by omega
      subst e
      have hset := Lib.hid (set_c NN (by omega) hkk)
      have hdrp := Lib.hid (drop_c NN ky)
      have hclm := Lib.hid (calm_c NN ky)
      have hrng := Lib.hid (fun r hr => rings_c NN r (by omega) (by omega) : ∀ r : Nat, r ≤ 15 → _)
      have hH := Lib.hid NN
      clear NN hR hok hkk
      by_cases h0 : kd = 0
      · subst h0
        clear hdrp hclm hrng hH
        unfold ptrV at *
        go_wp2_with fail
        refine hset.out.mono ?_
        rintro e w3 ⟨rfl, H3⟩
        have hf := hup.out _ _ _ (by omega) H3
        clear hset H3 c0 c1 c2 hup
        generalize setE s ky = E at *
        go_wp2_with fail
        go_roundw
        case rel => exact ⟨j + 1, by omega, by go_num, hf⟩
        case measure => (simp [intOf]; try omega)
      have hb0 : (kd == 0) = false := by simpa using h0
      clear h0 hset
      by_cases h1 : kd = 1
      · subst h1
        clear hclm hrng hH
        unfold ptrV at *
        go_wp2_with fail
        refine hdrp.out.mono ?_
        rintro e w3 ⟨rfl, H3⟩
        have hf := hup.out _ _ _ (by omega) H3
        clear hdrp H3 c0 c1 c2 hup
        generalize hasE s ky = E at *
        go_wp2_with fail
        go_roundw
        case rel => exact ⟨j + 1, by omega, by go_num, hf⟩
        case measure => (simp [intOf]; try omega)
      have hb1 : (kd == 1) = false := by simpa using h1
      clear h1 hdrp
      by_cases h2 : kd = 2
      · subst h2
        clear hrng hH
        unfold ptrV at *
        go_wp2_with fail
        refine hclm.out.mono ?_
        rintro e w3 ⟨rfl, H3⟩
        have hf := hup.out _ _ _ (by omega) H3
        clear hclm H3 c0 c1 c2 hup
        generalize hasE s ky = E at *
        go_wp2_with fail
        go_roundw
        case rel => exact ⟨j + 1, by omega, by go_num, hf⟩
        case measure => (simp [intOf]; try omega)
      have hb2 : (kd == 2) = false := by simpa using h2
      clear h2 hclm
      by_cases h4 : kd = 4
      · subst h4
        obtain ⟨r, hr, hre⟩ := and15 nn
        have hr2 := Lib.hid (hrng.out r hr)
        clear hH hrng
        unfold ptrV at *
        go_wp2_with fail
        refine hr2.out.mono ?_
        rintro e w3 ⟨a3, c3, rfl, H3⟩
        have hf := hup.out _ _ _ (by omega) (H3.re (.drop (.same _)))
        clear hr2 H3 c0 c1 c2 hup
        go_wp2_with fail
        go_roundw
        case rel => exact ⟨j + 1, by omega, by go_num, hf⟩
        case measure => (simp [intOf]; try omega)
      have hb4 : (kd == 4) = false := by simpa using h4
      have hf := hup.out _ _ _ (by omega) hH.out
      clear h4 hrng hH hup
      go_wp2_with fail
      go_roundw
      case rel => exact ⟨j + 1, by omega, by go_num, hf⟩
      case measure => (simp [intOf]; try omega)
    · obtain rfl : j = xl := by omega
      obtain ⟨s, NN⟩ := hR.out
      have hok := NN.ok
      clear hR hf'
      by_cases hl : s.l = []
      · have hn := Lib.hid (next_no NN hl)
        have hk := Lib.hid (keys_c NN)
        rw [hl] at hk
        rw [show ([] : List Al).length = 0 from rfl] at hk
        clear NN hok hl
        unfold ptrV at *
        go_wp2_with fail
        refine hn.out.mono ?_
        rintro e w3 ⟨rfl, rfl⟩
        clear hn
        go_wp2_with fail
        refine hk.out.mono ?_
        rintro e w4 ⟨a4, c4, rfl, H4⟩
        have hf := Lib.hid (H4.tail.tail.kp (.here _ _))
        clear hk H4
        go_wp2_with fail
        go_loopw [108] (fun i V => i = .int .i64 0 ∧ Hid (Kp no w V)) (fun _ _ => 0)
        case atStart => exact ⟨rfl, hf⟩
        case round =>
          clear hf
          obtain ⟨rfl, hf⟩ := hrel
          go_wp2_with fail
          go_ret
          exact ⟨rfl, hf.out⟩
      · have hn := Lib.hid (next_yes NN hl)
        obtain ⟨N, hN⟩ : ∃ N : Nat, leastK s.b s.l = N := ⟨(leastK s.b s.l).toNat, by have := (leastK_bd hok hl).1; omega⟩
        have hbd := leastK_bd hok hl
        have hle := Lib.hid (leastK_le s.b s.l).2
        have hfs := Lib.hid (first_has hok hl)
        rw [hN] at hn hbd hle hfs
        have hlen := hok.len
        have hpos : 0 < s.l.length := List.length_pos_iff.2 hl
        obtain ⟨n, hn0⟩ : ∃ n, s.l.length = n := ⟨_, rfl⟩
        have hn' := Lib.hid hn0
        have hky := Lib.hid (fun V (h : CAt (15 * (j : Nat)) p s [.old w no] V) => keys_c h)
        rw [hn0] at hky hlen hpos
        have hsrt := Lib.hid hok.srt
        clear NN hok hl hN hn0
        unfold ptrV at *
        go_wp2_with fail
        refine hn.out.mono ?_
        rintro e w3 ⟨rfl, H3⟩
        have hk := Lib.hid (hky.out _ H3)
        clear hn H3 hky
        go_wp2_with fail
        refine hk.out.mono ?_
        rintro e w4 ⟨ka, kc, rfl, H4⟩
        have hH4 : Hid (CAt (15 * (j : Nat)) p s (.own 30 1 (.slice none 0 0) 0 (uv (firstK (s.l.take 0) N)) :: .own 30 1 (.slice ka n kc) n (uv (keysK s.l)) :: [.old w no]) w4) := Lib.hid (H4.map fun N h => (h.pure (q := .own 30 1 (.slice none 0 0) 0 []) (OwnK.nil _ _ _ _) (fun b h => by cases h)).perm (List.perm_middle.symm : (_ :: (N ++ _)).Perm (N ++ _ :: _)))
        clear hk H4
        go_wp2_with fail
        go_loopw [108, 15] (fun i x V => ∃ (u m : Nat) (la : Option Addr) (lc : Nat), u ≤ n ∧ i = .int .i64 u ∧ x = .slice la m lc ∧ m ≤ u ∧ Hid ((firstK (s.l.take u) N).length = m ∧ CAt (15 * (j : Nat)) p s (.own 30 1 (.slice la m lc) m (uv (firstK (s.l.take u) N)) :: .own 30 1 (.slice ka n kc) n (uv (keysK s.l)) :: [.old w no]) V)) (fun i _ _ => n - (intOf i).toNat)
        case atStart => exact ⟨0, 0, none, 0, by omega, rfl, rfl, by omega, Lib.hid ⟨by simp [firstK, keysK], hH4.out⟩⟩
        case round =>
          clear hH4
          obtain ⟨u, m, la, lc, hu, rfl, rfl, hmu, hR⟩ := hrel
          by_cases hun : u < n
          · have hsl : u < s.l.length := by rw [hn'.out]; exact hun
            have hkl2 : u < (keysK s.l).length := by simpa [keysK] using hsl
            obtain ⟨hm, HC⟩ := hR.out
            obtain ⟨a', c', e1, -, hcc, hrd⟩ := own_u64 HC.tail.tail
            simp only [Value.slice.injEq] at e1
            obtain ⟨rfl, -, rfl⟩ := e1
            obtain ⟨b1, o1, rfl, g1⟩ := hrd u hkl2
            have hky2 : (keysK s.l)[u]'hkl2 = (s.l[u]'hsl).key := by simp [keysK]
            rw [hky2] at g1
            rw [show (keysK s.l).length = n by simp [keysK, hn'.out]] at hcc
            have hxm := List.getElem_mem hsl
            have hxo := HC.ok.all _ hxm
            have hle2 := hle.out _ hxm
            have hft := Lib.hid (first_take (n := (N : Int)) hsl)
            have hlf := Lib.hid (left_c HC (s.l[u]'hsl).key)
            rw [the_of hsrt.out hxm] at hlf
            have hm' := Lib.hid hm
            obtain ⟨-, -, hl1, -⟩ := hxo
            generalize s.l[u]'hsl = y at *
            obtain ⟨ky, wt, lf, rg⟩ := y
            dsimp only at *
            have hlp : decide (0 < lf) = true := by simp; omega
            have hlt : decide (lf < (N : Int)) = false := by simp; omega
            rw [hlp] at hlf
            clear hR HC hrd hm hky2 hxm hkl2 hsl
            unfold ptrV at *
            go_wp2_with fail
            refine hlf.out.mono ?_
            rintro e w5 ⟨rfl, H5⟩
            clear hlf g1
            by_cases heq : lf = N
            · subst heq
              rw [if_pos rfl] at hft
              obtain ⟨sl, HS, ok⟩ := H5
              have hH5 := Lib.hid (show SL w5 (ckP p sl s ++ (.own 30 1 (.slice la m lc) m (uv (firstK (s.l.take u) N)) :: _)) from HS)
              have hok := Lib.hid ok
              clear HS ok
              generalize firstK (s.l.take u) N = us at *
              go_wp2_with (
                at_builtin
                refine sl_app ((hH5.out.perm List.perm_middle).alloc [.int .u64 ky] 30) rfl _ _ _ rfl elemU _ rfl (.there (.here _ _)) [.int .u64 ky] rfl rfl (rd_newK _ _ _) (by simp [Value.oneCell']) (by simp only [maxLen]; omega) (by omega) (fun h => by cases h) ?_
                intro v' w7 H7 hnil
                obtain ⟨a3, c3, rfl, -⟩ := OwnK.slice H7.head
                have hH7 := Lib.hid (show CAt (15 * (j : Nat)) p s (.own 30 1 (.slice a3 (m + 1) c3) (m + 1) (uv us ++ [.int .u64 ky]) :: _) w7 from ⟨sl, (H7.re (.step (.here _ _) (.drop (.same _)))).perm List.perm_middle.symm, hok.out⟩)
                clear H7 hnil hH5)
              go_roundw
              case rel =>
                refine ⟨u + 1, m + 1, a3, c3, by omega, by go_num, rfl, by omega, Lib.hid ⟨?_, ?_⟩⟩
                · rw [hft.out, List.length_append, hm'.out]; rfl
                · have e : uv (us ++ [ky]) = uv us ++ [.int .u64 ky] := by unfold uv; rw [List.map_append]; rfl
                  rw [hft.out, e]
                  exact hH7.out
              case measure => (simp [intOf]; try omega)
            · rw [if_neg heq, List.append_nil] at hft
              have heb : (lf == (N : Int)) = false := by simpa using heq
              have hH5 := Lib.hid H5
              clear H5 heq
              go_wp2_with fail
              go_roundw
              case rel =>
                refine ⟨u + 1, m, la, lc, by omega, by go_num, rfl, by omega, Lib.hid ⟨?_, ?_⟩⟩
                · rw [hft.out]; exact hm'.out
                · rw [hft.out]; exact hH5.out
              case measure => (simp [intOf]; try omega)
          · obtain rfl : u = n := by omega
            have hR2 := hR
            rw [List.take_of_length_le (by rw [hn'.out]; exact Nat.le_refl _)] at hR2
            obtain ⟨hm, HC⟩ := hR2.out
            obtain ⟨N1, rfl⟩ : ∃ N1, N = N1 + 1 := ⟨N - 1, by omega⟩
            have hgt : ∀ x ∈ s.l, (N1 : Int) < x.left := fun x hx => by have := hle.out x hx; omega
            have hr := Lib.hid (rings_c HC N1 (by omega) (by omega))
            rw [rt_none N1 hgt] at hr
            rw [show ([] : List Int).length = 0 from rfl] at hr
            have ht := Lib.hid (fun V L R (h : CAt R p (tickN N1 s) L V) (hR : R ≤ 1000000000) => tick_c h hR)
            rw [rings_first hgt, show ((N1 : Int) + 1) = ((N1 + 1 : Nat) : Int) by omega] at ht
            have hcast : ((N1 + 1 : Nat) : Int) = (N1 : Int) + 1 := by omega
            have hm1 : 0 < m := by rw [← hm]; exact List.length_pos_iff.2 hfs.out
            obtain ⟨us, hus⟩ : ∃ us, firstK s.l ((N1 + 1 : Nat) : Int) = us := ⟨_, rfl⟩
            rw [hus] at hr ht hm
            have hm' := Lib.hid hm
            rw [hm] at ht
            have hw1 : (N1 : Int) + 1 - 1 = (N1 : Int) := by omega
            clear hR hR2 HC hle hfs hgt hus hm hn' hsrt
            unfold ptrV at *
            go_wp2_with fail
            refine hr.out.mono ?_
            rintro e w5 ⟨ra, rc, rfl, H5⟩
            have ht2 := Lib.hid (ht.out _ _ _ (H5.re (.drop (.same _))) (by omega))
            clear hr ht H5
            go_wp2_with fail
            refine ht2.out.mono ?_
            rintro e w6 ⟨ta, tc, rfl, H6⟩
            obtain ⟨y1, y2, e1, -, hc1, hr1⟩ := own_u64 H6.tail
            obtain ⟨x1, x2, e2, -, hc2, hr2⟩ := own_u64 H6.tail.tail
            simp only [Value.slice.injEq] at e1 e2
            obtain ⟨rfl, -, rfl⟩ := e1
            obtain ⟨rfl, -, rfl⟩ := e2
            have hl256 : us.length ≤ 1000000 := by rw [hm'.out]; omega
            have hn1 := Lib.hid (numbers_c _ hl256 ta la tc lc w6 hr1 hr2 hc1 hc2)
            rw [hm'.out] at hn1
            have hH6 := Lib.hid (H6.tail.tail.tail.tail)
            clear ht2 H6 hr1 hr2 hc1 hc2 hl256
            go_wp2_with fail
            refine hn1.out.mono ?_
            rintro e w7 ⟨rfl, hk7⟩
            have hf := Lib.hid ((hH6.out.quiet hk7).kp (.here _ _))
            clear hn1 hk7 hH6
            go_wp2_with fail
            go_ret
            exact ⟨rfl, hf.out⟩
theorem walkNext (fi lo : Int) (x : Option Addr) (xl xc : Nat) (f : Nat → OpI) (w : World) (w0 : (Lit.int .u8 fi).wf = true) (w1 : (Lit.int .u8 lo).wf = true) (w2 : RdOps w x xl f ∧ xl ≤ 9223372036854775807 ∧ xl ≤ xc) :
    Calls Try.prog 4 #[.int .u8 fi, .int .u8 lo, .slice x xl xc] w fun r w' => r = .returned (.bool true) ∧ Below w.heap.size w w' :=
  (anext_c fi lo x xl xc f w (wf_u8 w0) (wf_u8 w1) w2.1 w2.2.1 w2.2.2).mono fun _ _ ⟨h1, h2⟩ => ⟨h1, h2.self_below⟩
end Go.Proofs.Ytcjmkpphohkofaa
