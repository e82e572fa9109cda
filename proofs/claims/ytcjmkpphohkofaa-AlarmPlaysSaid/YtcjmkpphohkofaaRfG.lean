/- The reference's Keys, Next. -/
import Derived.Test.YtcjmkpphohkofaaRfF
namespace Go.Proofs.Ytcjmkpphohkofaa
open Go.RowKit Go.Shelf
set_option linter.unusedVariables false

section
variable {R : Int} {y : Nat} {s : Ck} {L : List Pc} {w : World}
theorem srt_uniq {o l : List Int} (hp : o.Perm l) (ho : o.Pairwise (· ≤ ·)) (hl : l.Pairwise (· < ·)) : o = l := by
  refine List.Perm.eq_of_pairwise (le := fun a b => decide (a ≤ b) = true) (fun a b _ _ h1 h2 => ?_) (ho.imp fun h => by simpa using h) (hl.imp fun h => by simp; omega) hp
  simp only [decide_eq_true_eq] at h1 h2
  omega
theorem keys_take {l : List Al} {j : Nat} (hj : j < l.length) : keysK (l.take (j + 1)) = keysK (l.take j) ++ [(l[j]'hj).key] := by
  unfold keysK
  rw [List.take_succ_eq_append_getElem hj, List.map_append]
  rfl
theorem least_perm {b : Int} {l m : List Al} (h : l.Perm m) : leastK b l = leastK b m := by
  have key : ∀ {l m : List Al}, l.Perm m → leastK b l ≤ leastK b m := by
    intro l m h
    rcases leastK_is b m with e | ⟨x, hx, e⟩
    · rw [e]; exact (leastK_le b l).1
    · rw [← e]; exact (leastK_le b l).2 x (h.mem_iff.2 hx)
  have h1 := key h
  have h2 := key h.symm
  omega

set_option maxRecDepth 100000 in
set_option maxHeartbeats 8000000 in
theorem rkeys_c (H : RF R y s L w) :
    Calls Try.prog 25 #[ptrV y] w fun e w' => ∃ a c, e = .returned (.slice a s.l.length c) ∧ RF R y s (.own 30 1 (.slice a s.l.length c) s.l.length (uv (keysK s.l)) :: L) w' := by
  obtain ⟨now, sl, ol, HS, ok⟩ := H
  have hlen : ol.length ≤ 256 := by rw [ok.len]; exact ok.2.2.len
  obtain ⟨sa, sc, rfl, hsc, -⟩ := sl_form (HS.re (.step (.there (.here _ _)) (.same _)))
  obtain ⟨n, hn⟩ : ∃ n, ol.length = n := ⟨_, rfl⟩
  have hn' := Lib.hid hn
  have hsn : s.l.length = n := by rw [← ok.len]; exact hn
  rw [hsn]
  have hpk := Lib.hid ok.keys
  have hks := Lib.hid (keys_srt ok.2.2.srt)
  have hfin : Hid (∀ V a c, SL V (.own 30 1 (.slice a n c) n (uv (keysK s.l)) :: .blk y [.int .i64 s.a, .int .i64 s.b, .int .i64 now, .slice sa n sc] 71 :: .own 73 4 (.slice sa n sc) n (alC ol) :: L) → RF R y s (.own 30 1 (.slice a n c) n (uv (keysK s.l)) :: L) V) := Lib.hid fun V a c h => ⟨now, _, ol, by
    unfold rfP
    rw [hn]
    exact h.re (.step (.there (.here _ _)) (.step (.there (.here _ _)) (.same _))), ok⟩
  have hH : Hid (SL w (.own 30 1 (.slice none 0 0) 0 (uv (keysK (ol.take 0))) :: .blk y [.int .i64 s.a, .int .i64 s.b, .int .i64 now, .slice sa n sc] 71 :: .own 73 4 (.slice sa n sc) n (alC ol) :: L)) := by
    unfold rfP at HS
    rw [hn] at HS
    exact Lib.hid ((show SL w (_ :: _ :: L) from HS).pure (q := .own 30 1 (.slice none 0 0) 0 []) (OwnK.nil _ _ _ _) (fun b h => by cases h))
  rw [hn] at hlen hsc
  clear HS ok hn hsn
  unfold ptrV at *
  go_enter Try.func25, Try.ntmps25
  go_wp2_with fail
  go_loopw [4, 3] (fun i x V => ∃ (u : Nat) (la : Option Addr) (lc : Nat), u ≤ n ∧ i = .int .i64 u ∧ x = .slice la u lc ∧ Hid (SL V (.own 30 1 (.slice la u lc) u (uv (keysK (ol.take u))) :: .blk y [.int .i64 s.a, .int .i64 s.b, .int .i64 now, .slice sa n sc] 71 :: .own 73 4 (.slice sa n sc) n (alC ol) :: L))) (fun i _ _ => n - (intOf i).toNat)
  case atStart => exact ⟨0, none, 0, by omega, rfl, rfl, hH⟩
  case round =>
    clear hH
    obtain ⟨u, la, lc, hu, rfl, rfl, hR⟩ := hrel
    have c3 := hR.out.cell (b := y) (o := 3) (.there (.here _ _)) rfl
    by_cases hun : u < n
    · have hul : u < ol.length := by rw [hn'.out]; exact hun
      have hft := Lib.hid (keys_take hul)
      have h3 := hR.out.re (.step (.there (.there (.here _ _))) (.same _))
      rw [← hn'.out] at h3
      obtain ⟨g, cap, e1, -, g0, -, -, -⟩ := own_alE h3 hul
      simp only [Value.slice.injEq] at e1
      obtain ⟨rfl, -, rfl⟩ := e1
      have hui : u + 1 ≤ sc := by omega
      have hHC := Lib.hid hR.out
      clear hR h3
      generalize (ol[u]'hul).key = ky at *
      generalize hus : keysK (ol.take u) = us at *
      clear hus
      go_wp2_with (
        at_builtin
        refine sl_app (hHC.out.alloc [.int .u64 ky] 30) rfl _ _ _ rfl elemU _ rfl (.there (.here _ _)) (n := u) (xs := uv us) (m := 1) (c := 1) [.int .u64 ky] rfl rfl (rd_newK _ _ _) (by simp [Value.oneCell']) (by simp only [maxLen]; omega) (by omega) (fun h => by cases h) ?_
        intro v' w7 H7 hnil
        obtain ⟨a3, c4, rfl, -⟩ := OwnK.slice H7.head
        have hH7 := Lib.hid (H7.re (.step (.here _ _) (.drop (.same _))))
        clear H7 hnil hHC)
      go_roundw
      case rel =>
        refine ⟨u + 1, a3, c4, by omega, by go_num, rfl, Lib.hid ?_⟩
        rw [hft.out, uv_app]
        exact hH7.out
      case measure => (simp [intOf]; try omega)
    · obtain rfl : u = n := by omega
      have hR2 := hR
      rw [List.take_of_length_le (by rw [hn'.out]; exact Nat.le_refl _)] at hR2
      have hso := Lib.hid (sorted_c hR2.out hlen)
      clear hR hR2
      go_wp2_with fail
      refine hso.out.mono ?_
      rintro e w5 ⟨a, c, o, rfl, hp, hs, H5⟩
      obtain rfl := srt_uniq (hp.trans hpk.out) hs hks.out
      have hf := Lib.hid (hfin.out _ _ _ (H5.re (.step (.here _ _) (.drop (.same _)))))
      clear hso H5 hfin hp hs
      go_wp2_with fail
      go_ret
      exact ⟨_, _, rfl, hf.out⟩

set_option maxRecDepth 100000 in
set_option maxHeartbeats 8000000 in
theorem rnext_c (H : RF R y s L w) :
    Calls Try.prog 24 #[ptrV y] w fun e w' => e = .returned (.tuple #[.int .i64 (if s.l = [] then 0 else leastK s.b s.l), .bool (decide (0 < s.l.length))]) ∧ RF R y s L w' := by
  obtain ⟨now, sl, ol, HS, ok⟩ := H
  have hlen : ol.length ≤ 256 := by rw [ok.len]; exact ok.2.2.len
  obtain ⟨sa, sc, rfl, hsc, -⟩ := sl_form (HS.re (.step (.there (.here _ _)) (.same _)))
  obtain ⟨n, hn⟩ : ∃ n, ol.length = n := ⟨_, rfl⟩
  have hn' := Lib.hid hn
  have hsn : s.l.length = n := by rw [← ok.len]; exact hn
  obtain ⟨M, hM⟩ : ∃ M, (if s.l = [] then 0 else leastK s.b s.l) = M := ⟨_, rfl⟩
  rw [hsn, hM]
  have hbb := ok.2.2.b
  have hM0 : Hid (n = 0 → M = 0) := Lib.hid fun h => by rw [← hM, if_pos (List.eq_nil_of_length_eq_zero (by rw [hsn, h]))]
  have hM1 : Hid (0 < n → leastK s.b (ol.map (decA now)) = M) := Lib.hid fun h => by
    rw [← hM, if_neg (fun e => by rw [e] at hsn; simp at hsn; omega)]
    exact least_perm ok.2.1
  have hlf : Hid (∀ i (hi : i < ol.length), 1 ≤ (ol[i]'hi).left - (now : Int) ∧ (ol[i]'hi).left - (now : Int) ≤ s.b) := Lib.hid fun i hi => (ok.at' hi).left
  have hfin : Hid (∀ V, SL V (rfP y s.a s.b now (.slice sa n sc) ol ++ L) → RF R y s L V) := Lib.hid fun V h => ⟨now, _, ol, h, ok⟩
  rw [hn] at HS hsc hlen
  have hH := Lib.hid HS
  clear HS ok hn hsn hM
  obtain ⟨b, hb⟩ : ∃ b, s.b = b := ⟨_, rfl⟩
  rw [hb] at hbb hH hlf hM1 hfin
  clear hb
  unfold ptrV at *
  go_enter Try.func24, Try.ntmps24
  go_wp2_with fail
  go_loopw [5, 4] (fun i z V => ∃ (u : Nat) (m : Int), u ≤ n ∧ i = .int .i64 u ∧ z = .int .i64 m ∧ Hid ((u = 0 → m = 0) ∧ (0 < u → m = leastK b ((ol.take u).map (decA now))) ∧ SL V (rfP y s.a b now (.slice sa n sc) ol ++ L))) (fun i _ _ => n - (intOf i).toNat)
  case atStart => exact ⟨0, 0, by omega, rfl, rfl, Lib.hid ⟨fun _ => rfl, fun h => by omega, hH.out⟩⟩
  case round =>
    clear hH
    obtain ⟨u, m, hu, rfl, rfl, hR⟩ := hrel
    obtain ⟨hm0, hm1, HC⟩ := hR.out
    have hHC := Lib.hid HC
    have c3 := HC.cell (b := y) (o := 3) (.here _ _) rfl
    have c2 := HC.cell (b := y) (o := 2) (.here _ _) rfl
    by_cases hun : u < n
    · have hul : u < ol.length := by rw [hn'.out]; exact hun
      have h3 := HC.re (.step (.there (.here _ _)) (.same _))
      rw [← hn'.out] at h3
      obtain ⟨g, cap, e1, -, -, -, g2, -⟩ := own_alE h3 hul
      simp only [Value.slice.injEq] at e1
      obtain ⟨rfl, -, rfl⟩ := e1
      have hui : u + 1 ≤ sc := by omega
      obtain ⟨hl1, hl2⟩ := hlf.out u hul
      have htk : Hid (leastK b ((ol.take (u + 1)).map (decA now)) = min (leastK b ((ol.take u).map (decA now))) ((ol[u]'hul).left - now)) := Lib.hid (by
        have := leastK_take (b := b) (l := ol.map (decA now)) (i := u) (by simpa using hul)
        rw [← List.map_take, ← List.map_take] at this
        rw [this]
        simp [decA])
      clear hR HC h3
      generalize (ol[u]'hul).left = lf at *
      have hwr : IntKind.i64.wrap (lf - (now : Int)) = lf - (now : Int) := IntWalk.i64_in _ ⟨by omega, by omega⟩
      by_cases hu0 : u = 0
      · have hj0 : ((u : Int) == 0) = true := by simpa using hu0
        have hrel : Hid (lf - (now : Int) = leastK b ((ol.take (u + 1)).map (decA now))) := Lib.hid (by
          rw [htk.out, hu0]
          show _ = min b (lf - now)
          omega)
        have hu0' := Lib.hid hu0
        clear htk hm0 hm1 hu0
        go_wp2_with fail
        go_quiet (fail)
        have hH2 := Lib.hid (hHC.out.drewN nq)
        clear hHC c3 c2 g2
        go_wp2_with fail
        go_roundw
        case rel => exact ⟨u + 1, _, by omega, by go_num, rfl, Lib.hid ⟨fun h => by omega, fun _ => hrel.out, hH2.out⟩⟩
        case measure => (simp [intOf]; try omega)
      · have hj0 : ((u : Int) == 0) = false := by simpa using hu0
        have hm := hm1 (by omega)
        rw [← hm] at htk
        clear hm hm0 hm1
        by_cases hlt : lf - (now : Int) < m
        · have hlb : decide (lf - (now : Int) < m) = true := by simpa using hlt
          have hrel : Hid (lf - (now : Int) = leastK b ((ol.take (u + 1)).map (decA now))) := Lib.hid (by rw [htk.out]; omega)
          clear htk hlt
          go_wp2_with fail
          go_quiet (fail)
          have hH2 := Lib.hid (hHC.out.drewN nq)
          clear hHC c3 c2 g2
          go_wp2_with fail
          go_roundw
          case rel => exact ⟨u + 1, _, by omega, by go_num, rfl, Lib.hid ⟨fun h => by omega, fun _ => hrel.out, hH2.out⟩⟩
          case measure => (simp [intOf]; try omega)
        · have hlb : decide (lf - (now : Int) < m) = false := by simpa using hlt
          have hrel : Hid (m = leastK b ((ol.take (u + 1)).map (decA now))) := Lib.hid (by rw [htk.out]; omega)
          clear htk hlt
          go_wp2_with fail
          go_quiet (fail)
          have hH2 := Lib.hid (hHC.out.drewN nq)
          clear hHC c3 c2 g2
          go_wp2_with fail
          go_roundw
          case rel => exact ⟨u + 1, _, by omega, by go_num, rfl, Lib.hid ⟨fun h => by omega, fun _ => hrel.out, hH2.out⟩⟩
          case measure => (simp [intOf]; try omega)
    · obtain rfl : u = n := by omega
      rw [List.take_of_length_le (by rw [hn'.out]; exact Nat.le_refl _)] at hm1
      have hmM : Hid (m = M) := Lib.hid (by
        by_cases h : u = 0
        · rw [hm0 h, hM0.out h]
        · rw [hm1 (by omega), hM1.out (by omega)])
      clear hR HC hm0 hm1 hM0 hM1
      go_wp2_with fail
      go_quiet (fail)
      have hH2 := Lib.hid (hHC.out.drewN nq)
      clear hHC c3 c2
      go_wp2_with fail
      go_ret2
      exact ⟨by rw [hmM.out]; rfl, hfin.out _ hH2.out⟩
end
end Go.Proofs.Ytcjmkpphohkofaa
