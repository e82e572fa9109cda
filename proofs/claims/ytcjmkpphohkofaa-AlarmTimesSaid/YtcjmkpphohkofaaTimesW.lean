/- The walk of AlarmTimes. -/
import Derived.Test.YtcjmkpphohkofaaTimesL
import Derived.Test.YtcjmkpphohkofaaBv
import Derived.Deep.CutBlock
import Derived.Deep.CutRange
namespace Go.Proofs.Ytcjmkpphohkofaa
open Go.RowKit Go.Shelf
set_option linter.unusedVariables false

/-- The alarm of 1000 behind j ticks. -/
def TmR (p : Nat) (a b : Int) (j : Nat) (wt at' rg : Int) (L : List Pc) (V : World) : Prop :=
  ∃ s : Ck, CAt (j : Nat) p s L V ∧ s.a = a ∧ s.b = b ∧ (⟨1000, wt, at' - j, rg⟩ : Al) ∈ s.l

theorem mem_take_succ {l : List Int} {k : Nat} (hk : k < l.length) (z : Int) : decide (z ∈ l.take (k + 1)) = (decide (z ∈ l.take k) || decide (l[k]'hk = z)) := by
  rw [List.take_succ_eq_append_getElem hk]
  generalize l[k]'hk = y
  generalize l.take k = t
  by_cases h1 : z ∈ t
  · simp [h1]
  · by_cases h2 : y = z
    · simp [h1, h2]
    · have h3 : ¬ z = y := fun e => h2 e.symm
      simp [h1, h2, h3]

set_option maxRecDepth 100000 in
set_option maxHeartbeats 16000000 in
theorem times_c (fi lo : Int) (x : Option Addr) (xl xc : Nat) (zs : List Int) (many : Int) (w : World) (hfi : 0 ≤ fi ∧ fi ≤ 255) (hlo : 0 ≤ lo ∧ lo ≤ 255) (hx : IsRow .u8 w x xl xc zs) (hmy : 0 ≤ many ∧ many ≤ 65535) :
    Calls Try.prog 3 #[.int .u8 fi, .int .u8 lo, .slice x xl xc, .int .u16 many] w fun e w' => e = .returned (.bool true) ∧ Kp no w w' := by
  have hal := Lib.hid (alive_c (SL.start w))
  have hx' := Lib.hid hx
  have hxl : xl ≤ 9223372036854775807 := by
    rcases hx with ⟨_, rfl, _⟩ | ⟨_, _, h1, h2, _⟩
    · omega
    · simp only [maxLen] at h2; omega
  clear hx
  obtain ⟨a, ha⟩ : ∃ a : Nat, (1 : Int) + fi % 100 = a := ⟨(1 + fi % 100).toNat, by omega⟩
  obtain ⟨b, hb⟩ : ∃ b : Nat, (a : Int) + lo % 100 = b := ⟨((a : Int) + lo % 100).toNat, by omega⟩
  obtain ⟨n, hn⟩ : ∃ n : Nat, many % 2001 = n := ⟨(many % 2001).toNat, by omega⟩
  have t1 : fi.tmod 100 = fi % 100 := Int.tmod_eq_emod_of_nonneg hfi.1
  have t2 : lo.tmod 100 = lo % 100 := Int.tmod_eq_emod_of_nonneg hlo.1
  have t3 : many.tmod 2001 = n := by rw [Int.tmod_eq_emod_of_nonneg hmy.1]; exact hn
  have ha1 : 1 ≤ a ∧ a ≤ 100 := by omega
  have hb1 : a ≤ b ∧ b ≤ 200 := by omega
  have hn1 : n ≤ 2000 := by omega
  go_enter Try.func3, Try.ntmps3
  go_wp2_with fail
  refine hal.out.mono ?_
  rintro e w1 ⟨rfl, H1⟩
  have hk1 := Lib.hid (H1.kp (.here _ _))
  have hnew := Lib.hid (new_c a b (by omega) (by omega) H1)
  clear hal H1
  by_cases hbig : 200 < xl
  · go_wp2_with fail
    go_ret
    exact ⟨rfl, hk1.out⟩
  have hxl2 : xl ≤ 200 := by omega
  clear hbig hxl hk1 hn
  go_wp2_with fail
  refine hnew.out.mono ?_
  rintro e w2 ⟨p, rfl, H2⟩
  have hset := Lib.hid (set_yes H2 (by omega) (k := 1000) ⟨by decide, by decide⟩ rfl (show (0 : Nat) < 256 by decide))
  clear hnew H2
  unfold ptrV at *
  go_wp2_with fail
  refine hset.out.mono ?_
  rintro e w3 ⟨rfl, H3⟩
  have hB : Hid (TmR p a b 0 a a 0 [.old w no] w3) := Lib.hid ⟨_, H3, rfl, rfl, by show _ ∈ insK [] 1000 a; simp [insK]⟩
  clear hset H3 t1 t2 ha hb
  go_wp2_with fail
  go_loopw [18, 15, 16, 17] (fun i x y z V => ∃ (j : Nat) (wt at' rg : Int), j ≤ n ∧ i = .int .i64 ((j : Int) + 1) ∧ x = .int .i64 wt ∧ y = .int .i64 at' ∧ z = .int .i64 rg ∧ Hid (TmR p a b j wt at' rg [.old w no] V)) (fun i _ _ _ _ => n + 1 - (intOf i).toNat)
  case atStart => exact ⟨0, a, a, 0, by omega, rfl, rfl, rfl, rfl, hB⟩
  case round =>
    clear hB
    obtain ⟨j, wt, at', rg, hj, rfl, rfl, rfl, rfl, hR⟩ := hrel
    by_cases hjn : j < n
    · obtain ⟨C, hC⟩ : ∃ C, decide ((j : Int) + 1 ≤ (xl : Int)) = C := ⟨_, rfl⟩
      have hC' := Lib.hid hC
      have hjt : decide ((j : Int) + 1 ≤ (n : Int)) = true := by simp; omega
      go_upto_if 68 with (fail)
      clear hC
      go_cut [85] from 69 to 85 (fun _ V => Hid (TmR p a b j wt at' rg [.old w no] V))
      case first =>
        cases C
        · go_wp2_with fail
          go_meet
          case rel => exact hR
        · have hjx : j < xl := by have := of_decide_eq_true hC'.out; omega
          obtain ⟨s, NN, hsa, hsb, hmem⟩ := hR.out
          rcases hx'.out.plain with h0 | ⟨bx, ox, e, h1, h2, h3, h4, h5, h6⟩
          · omega
          obtain ⟨y, hy⟩ : ∃ y, zs.getD j 0 = y := ⟨_, rfl⟩
          have hyb : 0 ≤ y ∧ y ≤ 255 := by
            rw [← hy, List.getD_eq_getElem?_getD, List.getElem?_eq_getElem (by omega)]
            exact wf_u8 (h6 _ (List.getElem_mem _))
          have hcx : Hid (∀ V, SL V [.old w no] → V.cell? ⟨bx, ox + j, none⟩ = some (.int .u8 y)) := Lib.hid fun V h => by
            have := (h.kp (.here _ _)).cell (h5 j (by omega)) (fun h => h)
            rw [hy] at this
            exact this
          have cx := hcx.out _ NN.tail
          have hset := Lib.hid (set_c NN (by omega) (k := y) ⟨hyb.1, by omega⟩)
          have hmem2 := Lib.hid (mem_set (k := y) hmem)
          have hab := setS_ab s y
          rw [hsa, hsb] at hab
          obtain ⟨s2, hs2⟩ : ∃ s2, setS s y = s2 := ⟨_, rfl⟩
          rw [hs2] at hset hmem2 hab
          obtain ⟨y2, hy2⟩ : ∃ y2 : Int, y.tdiv 2 = y2 := ⟨_, rfl⟩
          have hy2b : 0 ≤ y2 ∧ y2 ≤ 127 := by rw [← hy2, Int.tdiv_eq_ediv_of_nonneg hyb.1]; omega
          have hxc : j + 1 ≤ xc := by omega
          have hne : ¬ (y = 1000) := by omega
          subst e
          clear NN hsa hsb hmem hs2 h1 h2 h3 h4 h5 h6 hR hy
          unfold ptrV at *
          go_wp2_with fail
          refine hset.out.mono ?_
          rintro e w4 ⟨rfl, H4⟩
          have cx2 := hcx.out _ H4.tail
          have hdr := Lib.hid (drop_c H4 y2)
          have hfin : Hid (∀ V, CAt (j : Nat) p (dropS s2 y2) [.old w no] V → TmR p a b j wt at' rg [.old w no] V) := Lib.hid fun V h => ⟨_, h, hab.1, hab.2, mem_drop hmem2.out (by dsimp only; omega)⟩
          clear hset H4 hab hmem2 cx hcx
          generalize setE s y = E at *
          go_wp2_with fail
          refine hdr.out.mono ?_
          rintro e w5 ⟨rfl, H5⟩
          have hf := Lib.hid (hfin.out _ H5)
          clear hdr H5 hfin cx2
          go_wp2_with fail
          go_meet
          case rel => exact hf
      case rest =>
        obtain ⟨s, NN, hsa, hsb, hmem⟩ := hcut.out
        have hok := NN.ok
        have hin : Hid ((1000 : Int) ∈ ringsK s.l ↔ ¬ 1 < at' - j) := Lib.hid (ring_iff hok.srt hmem)
        have htk := Lib.hid (mem_tick hmem)
        obtain ⟨-, hw, hlf, hrg⟩ := hok.all _ hmem
        rw [hsb] at hw hlf htk
        dsimp only at hw hlf hrg
        have hsr := Lib.hid (rings_srt hok.srt)
        have ht := Lib.hid (tick_c NN (by omega))
        have hlen : (ringsK s.l).length ≤ 256 := by
          unfold ringsK keysK
          rw [List.length_map]
          exact Nat.le_trans (List.length_filter_le _ _) hok.len
        have hab : Hid ((tickS s).a = a ∧ (tickS s).b = b) := Lib.hid ⟨hsa, hsb⟩
        generalize tickS s = s2 at *
        generalize ringsK s.l = rk at *
        obtain ⟨m, hm⟩ : ∃ m, rk.length = m := ⟨_, rfl⟩
        have hm' := Lib.hid hm
        rw [hm] at ht hlen
        clear NN hsa hsb hmem hok hcut hR hm hC'
        unfold ptrV at *
        go_wp2_with fail
        refine ht.out.mono ?_
        rintro e w4 ⟨ra, rc, rfl, H4⟩
        have hH := Lib.hid H4
        clear ht H4
        go_wp2_with fail
        go_loopw [90, 19] (fun i x V => ∃ k : Nat, k ≤ m ∧ i = .int .i64 k ∧ x = .bool (decide ((1000 : Int) ∈ rk.take k)) ∧ Hid (CAt ((j : Nat) + 1) p s2 [.own 30 1 (.slice ra m rc) m (uv rk), .old w no] V)) (fun i _ _ => m - (intOf i).toNat)
        case atStart => exact ⟨0, by omega, rfl, by simp, hH⟩
        case round =>
          clear hH
          obtain ⟨k, hk, rfl, rfl, hR⟩ := hrel
          by_cases hkm : k < m
          · have hkl : k < rk.length := by rw [hm'.out]; exact hkm
            obtain ⟨a', c', e1, -, hcc, hrd⟩ := own_u64 hR.out.tail
            simp only [Value.slice.injEq] at e1
            obtain ⟨rfl, -, rfl⟩ := e1
            have htn := Lib.hid (mem_take_succ hkl 1000)
            obtain ⟨b1, o1, rfl, g1⟩ := hrd k hkl
            have hprev : Hid (∀ k', k = k' + 1 → ∃ z, wr.cell? ⟨b1, o1 + k', none⟩ = some (.int .u64 z) ∧ decide (rk[k]'hkl ≤ z) = false) := Lib.hid fun k' hk' => by
              obtain ⟨b2, o2, e2, g2⟩ := hrd k' (by omega)
              cases e2
              refine ⟨_, g2, decide_eq_false ?_⟩
              have := List.pairwise_iff_getElem.1 hsr.out k' k (by omega) hkl (by omega)
              omega
            rw [hm'.out] at hcc
            obtain ⟨mt, hmt⟩ : ∃ mt, decide ((1000 : Int) ∈ rk.take k) = mt := ⟨_, rfl⟩
            rw [hmt] at htn ⊢
            generalize rk[k]'hkl = y at *
            have hR2 := hR
            clear hR hrd hkl hmt
            have hq : Hid (∀ V nq, V = wr.drewN nq → CAt ((j : Nat) + 1) p s2 [.own 30 1 (.slice (some ⟨b1, o1, none⟩) m rc) m (uv rk), .old w no] V) := Lib.hid fun V nq h => by subst h; exact hR2.out.drewN nq
            by_cases hk0 : k = 0
            · have hkb : decide ((0 : Int) < (k : Int)) = false := by simp; omega
              have hkb2 : ¬ (0 < k) := by omega
              have hkb3 : decide (0 < k) = false := by simp; omega
              clear hprev hR2 hk0
              cases mt
              · go_wp2_with fail
                go_quiet (fail)
                have hrel := Lib.hid (hq.out _ nq rfl)
                clear hq g1
                go_wp2_with fail
                go_roundw
                case rel => exact ⟨k + 1, by omega, by go_num, by rw [htn.out]; by_cases h : y = 1000 <;> simp [h], hrel⟩
                case measure => (simp [intOf]; try omega)
              · go_wp2_with fail
                go_quiet (fail)
                have hrel := Lib.hid (hq.out _ nq rfl)
                clear hq g1
                go_wp2_with fail
                go_roundw
                case rel => exact ⟨k + 1, by omega, by go_num, by rw [htn.out]; by_cases h : y = 1000 <;> simp [h], hrel⟩
                case measure => (simp [intOf]; try omega)
            · obtain ⟨k', rfl⟩ : ∃ k', k = k' + 1 := ⟨k - 1, by omega⟩
              obtain ⟨z, g2, hyz⟩ := hprev.out k' rfl
              clear hprev hR2
              have hcast : ((k' + 1 : Nat) : Int) = (k' : Int) + 1 := by omega
              have hw1 : IntKind.i64.wrap ((k' : Int) + 1 - 1) = (k' : Int) := by rw [IntKind.wrap_i64]; omega
              have hk1 : k' + 1 ≤ rc := by omega
              cases mt
              · go_wp2_with fail
                go_quiet (fail)
                have hrel := Lib.hid (hq.out _ nq rfl)
                clear hq g1 g2
                go_wp2_with fail
                go_roundw
                case rel => exact ⟨k' + 1 + 1, by omega, by go_num, by rw [htn.out]; by_cases h : y = 1000 <;> simp [h], hrel⟩
                case measure => (simp [intOf]; try omega)
              · go_wp2_with fail
                go_quiet (fail)
                have hrel := Lib.hid (hq.out _ nq rfl)
                clear hq g1 g2
                go_wp2_with fail
                go_roundw
                case rel => exact ⟨k' + 1 + 1, by omega, by go_num, by rw [htn.out]; by_cases h : y = 1000 <;> simp [h], hrel⟩
                case measure => (simp [intOf]; try omega)
          · obtain rfl : k = m := by omega
            rw [List.take_of_length_le (by rw [hm'.out]; exact Nat.le_refl _)]
            have hle := Lib.hid (left_c hR.out 1000)
            have hag : Hid (theK s2.l 1000 = tk b ⟨1000, wt, at' - j, rg⟩) := Lib.hid (by
              have h := the_of hR.out.ok.srt htk.out
              rw [tk_key] at h
              exact h)
            rw [hag.out] at hle
            have hru := Lib.hid (fun V L (h : CAt ((j : Nat) + 1) p s2 L V) => rung_c h 1000)
            rw [hag.out] at hru
            have hrel2 : Hid (∀ V (y : Al), tk b ⟨1000, wt, at' - j, rg⟩ = y → ∀ wt2 at2 rg2, y = ⟨1000, wt2, at2 - ((j : Int) + 1), rg2⟩ → CAt ((j : Nat) + 1) p s2 [.own 30 1 (.slice ra k rc) k (uv rk), .old w no] V → TmR p a b (j + 1) wt2 at2 rg2 [.old w no] V) := Lib.hid fun V y hy wt2 at2 rg2 e h => ⟨s2, by
              rw [show ((j + 1 : Nat) : Int) = (j : Int) + 1 by omega]
              exact h.re (.drop (.same _)), hab.out.1, hab.out.2, by
              rw [show ((j + 1 : Nat) : Int) = (j : Int) + 1 by omega, ← e, ← hy]
              exact htk.out⟩
            by_cases hmet : at' - j ≤ 1
            · have hdm : decide ((1000 : Int) ∈ rk) = true := decide_eq_true (hin.out.2 (by omega))
              have hat : at' = (j : Int) + 1 := by omega
              obtain ⟨mn, hmn, hmn1, hmn2⟩ : ∃ mn : Int, min (2 * wt) b = mn ∧ 1 ≤ mn ∧ mn ≤ b := ⟨_, rfl, by omega, by omega⟩
              have etk : tk b ⟨1000, wt, at' - j, rg⟩ = ⟨1000, mn, mn, rg + 1⟩ := by
                unfold tk
                rw [if_neg (by dsimp only; omega)]
                dsimp only
                rw [hmn]
              rw [etk] at hle hru hrel2
              have hfin := Lib.hid (fun V h => hrel2.out V _ rfl mn (at' + mn) (rg + 1) (by rw [hat]; congr 1; omega) h)
              rw [hdm]
              clear hin hdm hmet hag htk hab hR hrel2 etk hsr hm'
              subst hat
              have hmt2 : decide (0 < mn) = true := by simp; omega
              have hsub : (j : Int) + 1 + mn - ((j : Int) + 1) = mn := by omega
              have hnn : (mn != mn) = false := by simp
              have hrr : (rg + 1 != rg + 1) = false := by simp
              clear hlf
              unfold ptrV at *
              go_wp2_with fail
              refine hle.out.mono ?_
              rintro e w5 ⟨rfl, H5⟩
              have hru2 := Lib.hid (hru.out _ _ H5)
              clear hle hru H5
              dsimp only
              rw [hmt2]
              go_wp2_with fail
              refine hru2.out.mono ?_
              rintro e w6 ⟨rfl, H6⟩
              have hf := Lib.hid (hfin.out _ H6)
              clear hru2 H6 hfin
              dsimp only
              go_wp2_with fail
              go_roundw
              case rel => exact ⟨j + 1, mn, (j : Int) + 1 + mn, rg + 1, by omega, by go_num, rfl, rfl, rfl, hf⟩
              case measure => (simp [intOf]; try omega)
            · have hdm : decide ((1000 : Int) ∈ rk) = false := decide_eq_false (fun h => hmet (hin.out.1 h))
              have hat : ¬ (at' = (j : Int) + 1) := by omega
              have etk : tk b ⟨1000, wt, at' - j, rg⟩ = ⟨1000, wt, at' - j - 1, rg⟩ := by
                unfold tk
                rw [if_pos (by dsimp only; omega)]
              rw [etk] at hle hru hrel2
              have hfin := Lib.hid (fun V h => hrel2.out V _ rfl wt at' rg (by congr 1; omega) h)
              rw [hdm]
              have heq1 : ((j : Int) + 1 == at') = false := by simp; omega
              obtain ⟨lf, hlf2⟩ : ∃ lf, at' - (j : Int) - 1 = lf := ⟨_, rfl⟩
              rw [hlf2] at hle
              have hmt2 : decide (0 < lf) = true := by simp; omega
              have hsub : at' - ((j : Int) + 1) = lf := by omega
              have hnn : (lf != lf) = false := by simp
              have hrr : (rg != rg) = false := by simp
              clear hin hdm hmet hag htk hab hR hrel2 etk hsr hm' hat
              unfold ptrV at *
              go_wp2_with fail
              refine hle.out.mono ?_
              rintro e w5 ⟨rfl, H5⟩
              have hru2 := Lib.hid (hru.out _ _ H5)
              clear hle hru H5
              dsimp only
              rw [hmt2]
              go_wp2_with fail
              refine hru2.out.mono ?_
              rintro e w6 ⟨rfl, H6⟩
              have hf := Lib.hid (hfin.out _ H6)
              clear hru2 H6 hfin
              dsimp only
              go_wp2_with fail
              go_roundw
              case rel => exact ⟨j + 1, wt, at', rg, by omega, by go_num, rfl, rfl, rfl, hf⟩
              case measure => (simp [intOf]; try omega)
    · obtain rfl : j = n := by omega
      obtain ⟨s, NN, -⟩ := hR.out
      have hf := Lib.hid (NN.tail.kp (.here _ _))
      clear hR NN
      go_wp2_with fail
      go_ret
      exact ⟨rfl, hf.out⟩
end Go.Proofs.Ytcjmkpphohkofaa
