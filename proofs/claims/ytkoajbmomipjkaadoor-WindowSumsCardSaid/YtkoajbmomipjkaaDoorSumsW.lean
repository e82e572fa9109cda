/- The walk of the law WindowSums (printed by gensums.py). -/
import Derived.Test.YtkoajbmomipjkaaDoorKonst
import Derived.Test.YtkoajbmomipjkaaDoorSumsL
import Derived.Test.YtkoajbmomipjkaaDoorWf
namespace Go.Proofs.YtkoajbmomipjkaaDoor
open Go.RowKit
set_option linter.unusedVariables false

/-- Meet, whether there is room or not. -/
theorem meet_any {T p N n : Nat} {x : BitVec 64} {L : List Pc} {w w0 : World} (H : SL w (winB p true (N : Int) (U x) :: L)) (ho : .old w0 no ∈ L) (ht : Tab w0) (hg : Good T N x) (hn : n < T) (hT : T ≤ 4611686018427387904) :
    Calls Tryd.prog 12 #[.pointer (some ⟨p, 0, none⟩), .int .u64 n] w fun e w' => ∃ (b : Bool) (er : Int) (N' : Nat) (x' : BitVec 64), e = .returned (.tuple #[.bool b, .int .i64 er]) ∧ Good T N' x' ∧ SL w' (winB p true (N' : Int) (U x') :: L) := by
  have hN := hg.next
  cases hr : roomM (N : Int) (n : Int) with
  | false =>
    refine (meet_no H hr (by omega) (by omega)).mono ?_
    rintro e w' ⟨rfl, rfl⟩
    exact ⟨_, _, N, x, rfl, hg, H⟩
  | true =>
    have h2 : n < N + 64 := by
      unfold roomM at hr
      rw [Bool.and_eq_true, decide_eq_true_eq, decide_eq_true_eq] at hr
      omega
    refine (meet_yes H (ht.no (H.all (.old w0 no) (by simp [ho]))) hg.full (by omega) hr).mono ?_
    rintro e w' ⟨rfl, H'⟩
    exact ⟨_, _, _, _, rfl, hg.with h2 hn, H'⟩

/-- Told, of a window that may be. -/
theorem toldU {T p N N2 R c : Nat} {x x2 z : BitVec 64} {L : List Pc} {w w0 : World} (H : SL w (winB p true (N : Int) (U x) :: L)) (ho : .old w0 no ∈ L) (ht : Tab w0) (hg : Good T N x) (hg2 : Good T N2 x2) (hT : T ≤ 600) (hu : unionM N x N2 x2 = (R, z))
    (hc : (List.range 600).countP (fun k => metM R z k && !metM N x k) = c) :
    Calls Tryd.prog 19 #[.pointer (some ⟨p, 0, none⟩), .int .u64 N2, .int .u64 (U x2)] w fun e w' => e = .returned (.tuple #[.int .i64 (c : Int), .int .i64 0]) ∧ SL w' (winB p true (R : Int) (U z) :: L) := by
  have h1 := told_count hg hg2 hT
  have h2 := told_L H ho ht (hg.mono (by omega)) (hg2.mono (by omega)) ((may_good N2 x2).2 (hg2.mono (by omega)))
  rw [h1, hu] at h2
  dsimp only at h2
  rw [hc] at h2
  exact h2

set_option maxRecDepth 100000 in
set_option maxHeartbeats 8000000 in
theorem sums_walk (xa yb : Nat) (hxa : xa ≤ 65535) (hyb : yb ≤ 65535) (al : Option Addr) (llen lcap : Nat) (ls : List Int) (am : Option Addr) (mlen mcap : Nat) (ms : List Int) (w : World) (ht : Tab w) (hl : IsRow .u8 w al llen lcap ls) (hm : IsRow .u8 w am mlen mcap ms) :
    Calls Tryd.prog 5 #[.int .u16 xa, .int .u16 yb, .slice al llen lcap, .slice am mlen mcap] w fun e w' => e = .returned (.bool true) ∧ Kp no w w' := by
  have hrl := Lib.hid hl.rd
  have hzl := Lib.hid hl.len
  have hrm := Lib.hid hm.rd
  have hzm := Lib.hid hm.len
  have hal := Lib.hid (alive_c w w ht (SL.start w))
  have ht' := Lib.hid ht
  clear hl hm ht
  go_enter Tryd.func5, Tryd.ntmps5
  go_wp2_with fail
  refine hal.out.mono ?_
  rintro e w1 ⟨rfl, H⟩
  have hH := Lib.hid H
  clear hal H
  by_cases h1 : 100 < llen
  · have hd : decide ((100 : Int) < (llen : Int)) = true := by simp; omega
    go_wp2_with fail
    go_ret
    exact ⟨rfl, hH.out.kp (.here _ _)⟩
  have hl1 : llen ≤ 100 := by omega
  by_cases h2 : 100 < mlen
  · have hd : decide ((100 : Int) < (mlen : Int)) = true := by simp; omega
    clear h1
    go_wp2_with fail
    go_ret
    exact ⟨rfl, hH.out.kp (.here _ _)⟩
  have hl2 : mlen ≤ 100 := by omega
  clear h1 h2
  obtain ⟨A0, hA0⟩ : ∃ A0, xa % 200 = A0 := ⟨_, rfl⟩
  obtain ⟨B0, hB0⟩ : ∃ B0, yb % 200 = B0 := ⟨_, rfl⟩
  have hA : A0 < 200 := by omega
  have hB : B0 < 200 := by omega
  have eA : (xa : Int) % 200 = (A0 : Int) := by omega
  have eB : (yb : Int) % 200 = (B0 : Int) := by omega
  have gA : Good 455 A0 0#64 := ⟨by simp, fun k hk => by unfold metM at hk; simp at hk; omega⟩
  have gB : Good 455 B0 0#64 := ⟨by simp, fun k hk => by unfold metM at hk; simp at hk; omega⟩
  have gA' := Lib.hid gA
  have gB' := Lib.hid gB
  have qA := (may_good A0 0#64).2 (gA.mono (by omega))
  have qB := (may_good B0 0#64).2 (gB.mono (by omega))
  have hO2 := Lib.hid (fun V L (h : SL V L) => ofYes (Nz := (B0 : Int)) (m := U (0#64)) h (by decide) (by decide) qB)
  have hO1 := Lib.hid (ofYes (Nz := (A0 : Int)) (m := U (0#64)) hH.out (by decide) (by decide) qA)
  clear hA0 hB0 gA gB qA qB hH
  go_wp2_with fail
  refine hO1.out.mono ?_
  rintro e w2 ⟨pa, rfl, H⟩
  have hO3 := Lib.hid (hO2.out _ _ H)
  clear hO1 hO2 H
  go_wp2_with fail
  refine hO3.out.mono ?_
  rintro e w3 ⟨pb, rfl, H⟩
  have hH := Lib.hid (show SL w3 [winB pa true (A0 : Int) (U (0#64)), winB pb true (B0 : Int) (U (0#64)), .old w no] from H.re (.step (.there (.here _ _)) (.same _)))
  clear hO3 H
  go_wp2_with fail
  go_loopw [63] (fun i V => ∃ (k N : Nat) (x : BitVec 64), k ≤ llen ∧ i = .int .i64 k ∧ Good 455 N x ∧ SL V [winB pa true (N : Int) (U x), winB pb true (B0 : Int) (U (0#64)), .old w no]) (fun i _ => llen - (intOf i).toNat)
  case atStart => exact ⟨0, A0, 0#64, by omega, rfl, gA'.out, hH.out⟩
  case round =>
    clear hH
    obtain ⟨k, Na, xA, hk, rfl, hg, H⟩ := hrel
    by_cases hkl : k < llen
    · obtain ⟨b, o, rfl, hc0⟩ := (hrl.out.no (H.kp (.there (.there (.here _ _))))) k hkl
      have hcell : wr.cell? ⟨b, o + k, none⟩ = some (.int .u8 (ls.getD k 0)) := hc0
      clear hc0
      have hwf : 0 ≤ ls.getD k 0 ∧ ls.getD k 0 ≤ 255 := by
        obtain ⟨y1, y2, y3, y4⟩ := hzl.out
        rcases y3 with y3 | y3
        · omega
        · exact wf_b (y4 (ls.getD k 0) (by rw [List.getD_eq_getElem?_getD, List.getElem?_eq_getElem (by omega)]; exact List.getElem_mem _))
      obtain ⟨m, hm⟩ : ∃ m : Nat, ls.getD k 0 = m := ⟨(ls.getD k 0).toNat, by omega⟩
      rw [hm] at hcell hwf
      obtain ⟨y, hy⟩ : ∃ y, A0 + m = y := ⟨_, rfl⟩
      have ey : (A0 : Int) + m = (y : Int) := by omega
      have hy5 : y < 455 := by omega
      have hmt := Lib.hid (meet_any (n := y) H (by simp) ht'.out hg hy5 (by omega))
      clear hm hy H hg
      go_wp2_with fail
      refine hmt.out.mono ?_
      rintro e w4 ⟨b1, er, N', x', rfl, hg', H⟩
      have hg2 := Lib.hid hg'
      have hH := Lib.hid H
      clear hmt hg' H
      go_wp2_with fail
      go_roundw
      case rel => exact ⟨k + 1, N', x', by omega, by go_num, hg2.out, hH.out⟩
      case measure => (simp [intOf]; try omega)
    obtain rfl : k = llen := by omega
    clear hkl
    have ga := Lib.hid hg
    have hH := Lib.hid H
    clear hg H
    replace hH := Lib.hid (hH.out.re (L' := [winB pb true (B0 : Int) (U (0#64)), winB pa true (Na : Int) (U xA), .old w no]) (.step (.there (.here _ _)) (.same _)))
    go_wp2_with fail
    go_loopw [80] (fun i V => ∃ (k N : Nat) (x : BitVec 64), k ≤ mlen ∧ i = .int .i64 k ∧ Good 455 N x ∧ SL V [winB pb true (N : Int) (U x), winB pa true (Na : Int) (U xA), .old w no]) (fun i _ => mlen - (intOf i).toNat)
    case atStart => exact ⟨0, B0, 0#64, by omega, rfl, gB'.out, hH.out⟩
    case round =>
      clear hH
      obtain ⟨k, Nb, xB, hk, rfl, hg, H⟩ := hrel
      by_cases hkl : k < mlen
      · obtain ⟨b, o, rfl, hc0⟩ := (hrm.out.no (H.kp (.there (.there (.here _ _))))) k hkl
        have hcell : wr.cell? ⟨b, o + k, none⟩ = some (.int .u8 (ms.getD k 0)) := hc0
        clear hc0
        have hwf : 0 ≤ ms.getD k 0 ∧ ms.getD k 0 ≤ 255 := by
          obtain ⟨y1, y2, y3, y4⟩ := hzm.out
          rcases y3 with y3 | y3
          · omega
          · exact wf_b (y4 (ms.getD k 0) (by rw [List.getD_eq_getElem?_getD, List.getElem?_eq_getElem (by omega)]; exact List.getElem_mem _))
        obtain ⟨m, hm⟩ : ∃ m : Nat, ms.getD k 0 = m := ⟨(ms.getD k 0).toNat, by omega⟩
        rw [hm] at hcell hwf
        obtain ⟨y, hy⟩ : ∃ y, B0 + m = y := ⟨_, rfl⟩
        have ey : (B0 : Int) + m = (y : Int) := by omega
        have hy5 : y < 455 := by omega
        have hmt := Lib.hid (meet_any (n := y) H (by simp) ht'.out hg hy5 (by omega))
        clear hm hy H hg
        go_wp2_with fail
        refine hmt.out.mono ?_
        rintro e w4 ⟨b1, er, N', x', rfl, hg', H⟩
        have hg2 := Lib.hid hg'
        have hH := Lib.hid H
        clear hmt hg' H
        go_wp2_with fail
        go_roundw
        case rel => exact ⟨k + 1, N', x', by omega, by go_num, hg2.out, hH.out⟩
        case measure => (simp [intOf]; try omega)
      obtain rfl : k = mlen := by omega
      clear hkl
      have gb := Lib.hid hg
      have hH := Lib.hid H
      clear hg H
      obtain ⟨⟨Nu, xu⟩, hu⟩ : ∃ u, unionM Na xA Nb xB = u := ⟨_, rfl⟩
      have hv : unionM Nb xB Na xA = (Nu, xu) := by rw [union_comm ga.out gb.out, hu]
      have hw : unionM Nu xu Na xA = (Nu, xu) := by have := union_again ga.out gb.out; rw [hu] at this; exact this
      obtain ⟨gu, u1, u2, um⟩ := union_spec ga.out gb.out
      rw [hu] at gu u1 u2 um
      dsimp only at gu u1 u2 um
      obtain ⟨P, hP⟩ : ∃ P, (List.range 600).countP (fun k => metM Nu xu k && !metM Na xA k) = P := ⟨_, rfl⟩
      obtain ⟨Q, hQ⟩ : ∃ Q, (List.range 600).countP (fun k => metM Nu xu k && !metM Nb xB k) = Q := ⟨_, rfl⟩
      have hZ : (List.range 600).countP (fun k => metM Nu xu k && !metM Nu xu k) = 0 := by simp
      have hu' := Lib.hid hu
      have hv' := Lib.hid hv
      have hw' := Lib.hid hw
      have gu' := Lib.hid gu
      have um' := Lib.hid um
      have hP' := Lib.hid hP
      have hQ' := Lib.hid hQ
      have hZ' := Lib.hid hZ
      have qa := Lib.hid ((may_good Na xA).2 (ga.out.mono (by omega)))
      have n1 : (Na : Int) ≤ 600 := by have := ga.out.next; omega
      have n2 : (Nb : Int) ≤ 600 := by have := gb.out.next; omega
      have n3 : (Nu : Int) ≤ 600 := by have := gu.next; omega
      have d1 : decide ((Nu : Int) < (Na : Int)) = false := by simp; omega
      have d2 : decide ((Nu : Int) < (Nb : Int)) = false := by simp; omega
      have H := hH.out
      clear hH hu hv hw gu um hP hQ hZ
      replace H := H.re (.step (.there (.here _ _)) (.same _))
      have c := Lib.hid (next_c H)
      have hH := Lib.hid H
      clear H
      go_wp2_with fail
      refine c.out.mono ?_
      rintro e w' ⟨rfl, rfl⟩
      have H := hH.out
      clear c hH
      have c := Lib.hid (mask_c H)
      have hH := Lib.hid H
      clear H
      go_wp2_with fail
      refine c.out.mono ?_
      rintro e w' ⟨rfl, rfl⟩
      have H := hH.out
      clear c hH
      have c := Lib.hid (ofYes H (U_nn xA) (U_lt64 xA) qa.out)
      have hH := Lib.hid H
      clear H
      go_wp2_with fail
      refine c.out.mono ?_
      rintro e W13 ⟨pc, rfl, H⟩
      clear c hH
      replace H := H.re (.step (.there (.there (.here _ _))) (.same _))
      have c := Lib.hid (copy_c H)
      have hH := Lib.hid H
      clear H
      go_wp2_with fail
      refine c.out.mono ?_
      rintro e W14 ⟨pd, rfl, H⟩
      clear c hH
      replace H := H.re (.step (.there (.there (.there (.here _ _)))) (.same _))
      have c := Lib.hid (next_c H)
      have hH := Lib.hid H
      clear H
      go_wp2_with fail
      refine c.out.mono ?_
      rintro e w' ⟨rfl, rfl⟩
      have H := hH.out
      clear c hH
      have c := Lib.hid (mask_c H)
      have hH := Lib.hid H
      clear H
      go_wp2_with fail
      refine c.out.mono ?_
      rintro e w' ⟨rfl, rfl⟩
      have H := hH.out
      clear c hH
      replace H := H.re (.step (.there (.there (.there (.here _ _)))) (.same _))
      have c := Lib.hid (atL H (Na : Int) (U xA) rfl rfl)
      have hH := Lib.hid H
      clear H
      go_wp2_with fail
      refine c.out.mono ?_
      rintro e w' ⟨rfl, rfl⟩
      have H := hH.out
      clear c hH
      replace H := H.re (.step (.there (.there (.there (.here _ _)))) (.same _))
      have c := Lib.hid (next_c H)
      have hH := Lib.hid H
      clear H
      go_wp2_with fail
      refine c.out.mono ?_
      rintro e w' ⟨rfl, rfl⟩
      have H := hH.out
      clear c hH
      have c := Lib.hid (mask_c H)
      have hH := Lib.hid H
      clear H
      go_wp2_with fail
      refine c.out.mono ?_
      rintro e w' ⟨rfl, rfl⟩
      have H := hH.out
      clear c hH
      replace H := H.re (.step (.there (.here _ _)) (.same _))
      have c := Lib.hid (toldU H (by simp) ht'.out ga.out gb.out (by decide) hu'.out hP'.out)
      have hH := Lib.hid H
      clear H
      go_wp2_with fail
      refine c.out.mono ?_
      rintro e W20 ⟨rfl, H⟩
      clear c hH
      replace H := H.re (.step (.there (.there (.here _ _))) (.same _))
      have c := Lib.hid (next_c H)
      have hH := Lib.hid H
      clear H
      go_wp2_with fail
      refine c.out.mono ?_
      rintro e w' ⟨rfl, rfl⟩
      have H := hH.out
      clear c hH
      have c := Lib.hid (mask_c H)
      have hH := Lib.hid H
      clear H
      go_wp2_with fail
      refine c.out.mono ?_
      rintro e w' ⟨rfl, rfl⟩
      have H := hH.out
      clear c hH
      replace H := H.re (.step (.there (.there (.there (.here _ _)))) (.same _))
      have c := Lib.hid (toldU H (by simp) ht'.out gb.out ga.out (by decide) hv'.out hQ'.out)
      have hH := Lib.hid H
      clear H
      go_wp2_with fail
      refine c.out.mono ?_
      rintro e W23 ⟨rfl, H⟩
      clear c hH
      have c := Lib.hid (next_c H)
      have hH := Lib.hid H
      clear H
      go_wp2_with fail
      refine c.out.mono ?_
      rintro e w' ⟨rfl, rfl⟩
      have H := hH.out
      clear c hH
      have c := Lib.hid (mask_c H)
      have hH := Lib.hid H
      clear H
      go_wp2_with fail
      refine c.out.mono ?_
      rintro e w' ⟨rfl, rfl⟩
      have H := hH.out
      clear c hH
      replace H := H.re (.step (.there (.there (.here _ _))) (.same _))
      have c := Lib.hid (atL H (Nu : Int) (U xu) rfl rfl)
      have hH := Lib.hid H
      clear H
      go_wp2_with fail
      refine c.out.mono ?_
      rintro e w' ⟨rfl, rfl⟩
      have H := hH.out
      clear c hH
      have c := Lib.hid (next_c H)
      have hH := Lib.hid H
      clear H
      go_wp2_with fail
      refine c.out.mono ?_
      rintro e w' ⟨rfl, rfl⟩
      have H := hH.out
      clear c hH
      replace H := H.re (.step (.there (.there (.here _ _))) (.same _))
      have c := Lib.hid (next_c H)
      have hH := Lib.hid H
      clear H
      go_wp2_with fail
      refine c.out.mono ?_
      rintro e w' ⟨rfl, rfl⟩
      have H := hH.out
      clear c hH
      replace H := H.re (.step (.there (.here _ _)) (.same _))
      have c := Lib.hid (next_c H)
      have hH := Lib.hid H
      clear H
      go_wp2_with fail
      refine c.out.mono ?_
      rintro e w' ⟨rfl, rfl⟩
      have H := hH.out
      clear c hH
      replace H := H.re (.step (.there (.there (.there (.here _ _)))) (.same _))
      have c := Lib.hid (next_c H)
      have hH := Lib.hid H
      clear H
      go_wp2_with fail
      refine c.out.mono ?_
      rintro e w' ⟨rfl, rfl⟩
      have H := hH.out
      clear c hH
      replace H := H.re (.step (.there (.here _ _)) (.step (.there (.here _ _)) (.step (.here _ _) (.step (.here _ _) (.step (.here _ _) (.same _))))))
      have hH := Lib.hid H
      clear H
      have p0 : decide ((P : Int) < 0) = false := decide_eq_false (by omega)
      have q0 : decide ((Q : Int) < 0) = false := decide_eq_false (by omega)
      have dn1 : decide (Nu < Na) = false := decide_eq_false (by omega)
      have dn2 : decide (Nu < Nb) = false := decide_eq_false (by omega)
      go_wp2_with fail
      clear dn1 dn2 d1 d2 p0 q0
      go_loopw [24, 23] (fun i t V => ∃ n : Nat, n ≤ 600 ∧ i = .int .u64 (n : Int) ∧ t = .int .i64 (((List.range n).countP (fun k => metM Nu xu k && !metM Na xA k) : Nat) : Int) ∧ SL V [winB pc true (Nu : Int) (U xu), winB pa true (Na : Int) (U xA), winB pb true (Nb : Int) (U xB), winB pd true (Nu : Int) (U xu), .old w no]) (fun i _ _ => 600 - (intOf i).toNat)
      case atStart => exact ⟨0, by omega, rfl, rfl, hH.out⟩
      case round =>
        clear hH
        obtain ⟨n, hn, rfl, rfl, H⟩ := hrel
        obtain ⟨kk, hkk⟩ : ∃ kk, (List.range n).countP (fun k => metM Nu xu k && !metM Na xA k) = kk := ⟨_, rfl⟩
        have hk6 : kk ≤ n := by
          have := List.countP_le_length (p := fun k => metM Nu xu k && !metM Na xA k) (l := List.range n)
          rw [List.length_range, hkk] at this; exact this
        rw [hkk]
        by_cases hnl : n < 600
        · have hs : (List.range (n + 1)).countP (fun k => metM Nu xu k && !metM Na xA k) = kk + [n].countP (fun k => metM Nu xu k && !metM Na xA k) := by rw [List.range_succ, List.countP_append, hkk]
          rw [List.countP_singleton] at hs
          have hmu := um'.out n
          have hc := fun V (h : SL V [winB pc true (Nu : Int) (U xu), winB pa true (Na : Int) (U xA), winB pb true (Nb : Int) (U xB), winB pd true (Nu : Int) (U xu), .old w no]) => has_L h (by simp) ht'.out (by omega) n
          have ha := fun V (h : SL V [winB pa true (Na : Int) (U xA), winB pc true (Nu : Int) (U xu), winB pb true (Nb : Int) (U xB), winB pd true (Nu : Int) (U xu), .old w no]) => has_L h (by simp) ht'.out (by omega) n
          have hb := fun V (h : SL V [winB pb true (Nb : Int) (U xB), winB pa true (Na : Int) (U xA), winB pc true (Nu : Int) (U xu), winB pd true (Nu : Int) (U xu), .old w no]) => has_L h (by simp) ht'.out (by omega) n
          clear hkk
          rw [hmu] at hs hc
          generalize metM Na xA n = ba at *
          generalize metM Nb xB n = bb at *
          have hc' := Lib.hid hc
          have ha' := Lib.hid ha
          have hb' := Lib.hid hb
          clear hmu hc ha hb
          cases ba <;> cases bb
          · have hs' := Lib.hid (show _ = kk + 0 from hs)
            clear hs
            have c := Lib.hid (hc'.out _ H)
            have hH := Lib.hid H
            clear H
            go_wp2_with fail
            refine c.out.mono ?_
            rintro e W41 ⟨rfl, H⟩
            clear c hH
            replace H := H.re (.step (.there (.here _ _)) (.step (.here _ _) (.step (.here _ _) (.step (.here _ _) (.step (.here _ _) (.same _))))))
            have c := Lib.hid (ha'.out _ H)
            have hH := Lib.hid H
            clear H
            go_wp2_with fail
            refine c.out.mono ?_
            rintro e W42 ⟨rfl, H⟩
            clear c hH
            replace H := H.re (.step (.there (.there (.here _ _))) (.step (.here _ _) (.step (.here _ _) (.step (.here _ _) (.step (.here _ _) (.same _))))))
            have c := Lib.hid (hb'.out _ H)
            have hH := Lib.hid H
            clear H
            go_wp2_with fail
            refine c.out.mono ?_
            rintro e W43 ⟨rfl, H⟩
            clear c hH
            replace H := H.re (.step (.there (.there (.here _ _))) (.step (.there (.here _ _)) (.step (.here _ _) (.step (.here _ _) (.step (.here _ _) (.same _))))))
            have c := Lib.hid (hc'.out _ H)
            have hH := Lib.hid H
            clear H
            go_wp2_with fail
            refine c.out.mono ?_
            rintro e W44 ⟨rfl, H⟩
            clear c hH
            have hH := Lib.hid H
            clear H
            go_wp2_with fail
            go_roundw
            case rel => exact ⟨n + 1, by omega, by go_num, by rw [hs'.out]; go_num, hH.out⟩
            case measure => (simp [intOf]; try omega)
          · have hs' := Lib.hid (show _ = kk + 1 from hs)
            clear hs
            have c := Lib.hid (hc'.out _ H)
            have hH := Lib.hid H
            clear H
            go_wp2_with fail
            refine c.out.mono ?_
            rintro e W41 ⟨rfl, H⟩
            clear c hH
            replace H := H.re (.step (.there (.here _ _)) (.step (.here _ _) (.step (.here _ _) (.step (.here _ _) (.step (.here _ _) (.same _))))))
            have c := Lib.hid (ha'.out _ H)
            have hH := Lib.hid H
            clear H
            go_wp2_with fail
            refine c.out.mono ?_
            rintro e W42 ⟨rfl, H⟩
            clear c hH
            replace H := H.re (.step (.there (.there (.here _ _))) (.step (.here _ _) (.step (.here _ _) (.step (.here _ _) (.step (.here _ _) (.same _))))))
            have c := Lib.hid (hb'.out _ H)
            have hH := Lib.hid H
            clear H
            go_wp2_with fail
            refine c.out.mono ?_
            rintro e W43 ⟨rfl, H⟩
            clear c hH
            replace H := H.re (.step (.there (.there (.here _ _))) (.step (.there (.here _ _)) (.step (.here _ _) (.step (.here _ _) (.step (.here _ _) (.same _))))))
            have c := Lib.hid (hc'.out _ H)
            have hH := Lib.hid H
            clear H
            go_wp2_with fail
            refine c.out.mono ?_
            rintro e W44 ⟨rfl, H⟩
            clear c hH
            replace H := H.re (.step (.there (.here _ _)) (.step (.here _ _) (.step (.here _ _) (.step (.here _ _) (.step (.here _ _) (.same _))))))
            have c := Lib.hid (ha'.out _ H)
            have hH := Lib.hid H
            clear H
            go_wp2_with fail
            refine c.out.mono ?_
            rintro e W45 ⟨rfl, H⟩
            clear c hH
            replace H := H.re (.step (.there (.here _ _)) (.step (.here _ _) (.step (.here _ _) (.step (.here _ _) (.step (.here _ _) (.same _))))))
            have hH := Lib.hid H
            clear H
            go_wp2_with fail
            go_roundw
            case rel => exact ⟨n + 1, by omega, by go_num, by rw [hs'.out]; go_num, hH.out⟩
            case measure => (simp [intOf]; try omega)
          · have hs' := Lib.hid (show _ = kk + 0 from hs)
            clear hs
            have c := Lib.hid (hc'.out _ H)
            have hH := Lib.hid H
            clear H
            go_wp2_with fail
            refine c.out.mono ?_
            rintro e W41 ⟨rfl, H⟩
            clear c hH
            replace H := H.re (.step (.there (.here _ _)) (.step (.here _ _) (.step (.here _ _) (.step (.here _ _) (.step (.here _ _) (.same _))))))
            have c := Lib.hid (ha'.out _ H)
            have hH := Lib.hid H
            clear H
            go_wp2_with fail
            refine c.out.mono ?_
            rintro e W42 ⟨rfl, H⟩
            clear c hH
            replace H := H.re (.step (.there (.here _ _)) (.step (.here _ _) (.step (.here _ _) (.step (.here _ _) (.step (.here _ _) (.same _))))))
            have c := Lib.hid (hc'.out _ H)
            have hH := Lib.hid H
            clear H
            go_wp2_with fail
            refine c.out.mono ?_
            rintro e W43 ⟨rfl, H⟩
            clear c hH
            replace H := H.re (.step (.there (.here _ _)) (.step (.here _ _) (.step (.here _ _) (.step (.here _ _) (.step (.here _ _) (.same _))))))
            have c := Lib.hid (ha'.out _ H)
            have hH := Lib.hid H
            clear H
            go_wp2_with fail
            refine c.out.mono ?_
            rintro e W44 ⟨rfl, H⟩
            clear c hH
            replace H := H.re (.step (.there (.here _ _)) (.step (.here _ _) (.step (.here _ _) (.step (.here _ _) (.step (.here _ _) (.same _))))))
            have hH := Lib.hid H
            clear H
            go_wp2_with fail
            go_roundw
            case rel => exact ⟨n + 1, by omega, by go_num, by rw [hs'.out]; go_num, hH.out⟩
            case measure => (simp [intOf]; try omega)
          · have hs' := Lib.hid (show _ = kk + 0 from hs)
            clear hs
            have c := Lib.hid (hc'.out _ H)
            have hH := Lib.hid H
            clear H
            go_wp2_with fail
            refine c.out.mono ?_
            rintro e W41 ⟨rfl, H⟩
            clear c hH
            replace H := H.re (.step (.there (.here _ _)) (.step (.here _ _) (.step (.here _ _) (.step (.here _ _) (.step (.here _ _) (.same _))))))
            have c := Lib.hid (ha'.out _ H)
            have hH := Lib.hid H
            clear H
            go_wp2_with fail
            refine c.out.mono ?_
            rintro e W42 ⟨rfl, H⟩
            clear c hH
            replace H := H.re (.step (.there (.here _ _)) (.step (.here _ _) (.step (.here _ _) (.step (.here _ _) (.step (.here _ _) (.same _))))))
            have c := Lib.hid (hc'.out _ H)
            have hH := Lib.hid H
            clear H
            go_wp2_with fail
            refine c.out.mono ?_
            rintro e W43 ⟨rfl, H⟩
            clear c hH
            replace H := H.re (.step (.there (.here _ _)) (.step (.here _ _) (.step (.here _ _) (.step (.here _ _) (.step (.here _ _) (.same _))))))
            have c := Lib.hid (ha'.out _ H)
            have hH := Lib.hid H
            clear H
            go_wp2_with fail
            refine c.out.mono ?_
            rintro e W44 ⟨rfl, H⟩
            clear c hH
            replace H := H.re (.step (.there (.here _ _)) (.step (.here _ _) (.step (.here _ _) (.step (.here _ _) (.step (.here _ _) (.same _))))))
            have hH := Lib.hid H
            clear H
            go_wp2_with fail
            go_roundw
            case rel => exact ⟨n + 1, by omega, by go_num, by rw [hs'.out]; go_num, hH.out⟩
            case measure => (simp [intOf]; try omega)
        obtain rfl : n = 600 := by omega
        have hkP : kk = P := by rw [← hkk, hP'.out]
        subst hkP
        clear hnl hkk
        replace H := H.re (.step (.there (.here _ _)) (.same _))
        have c := Lib.hid (next_c H)
        have hH := Lib.hid H
        clear H
        go_wp2_with fail
        refine c.out.mono ?_
        rintro e w' ⟨rfl, rfl⟩
        have H := hH.out
        clear c hH
        have c := Lib.hid (mask_c H)
        have hH := Lib.hid H
        clear H
        go_wp2_with fail
        refine c.out.mono ?_
        rintro e w' ⟨rfl, rfl⟩
        have H := hH.out
        clear c hH
        replace H := H.re (.step (.there (.here _ _)) (.same _))
        have c := Lib.hid (toldU H (by simp) ht'.out gu'.out ga.out (by decide) hw'.out hZ'.out)
        have hH := Lib.hid H
        clear H
        go_wp2_with fail
        refine c.out.mono ?_
        rintro e W63 ⟨rfl, H⟩
        clear c hH
        replace H := H.re (.step (.there (.there (.there (.here _ _)))) (.same _))
        have c := Lib.hid (next_c H)
        have hH := Lib.hid H
        clear H
        go_wp2_with fail
        refine c.out.mono ?_
        rintro e w' ⟨rfl, rfl⟩
        have H := hH.out
        clear c hH
        have c := Lib.hid (mask_c H)
        have hH := Lib.hid H
        clear H
        go_wp2_with fail
        refine c.out.mono ?_
        rintro e w' ⟨rfl, rfl⟩
        have H := hH.out
        clear c hH
        replace H := H.re (.step (.there (.here _ _)) (.same _))
        have c := Lib.hid (atL H (Nu : Int) (U xu) rfl rfl)
        have hH := Lib.hid H
        clear H
        go_wp2_with fail
        refine c.out.mono ?_
        rintro e w' ⟨rfl, rfl⟩
        have H := hH.out
        clear c hH
        replace H := H.re (.step (.there (.there (.there (.there (.here _ _))))) (.same _))
        have hk := Lib.hid (H.kp (.here _ _))
        clear H
        go_wp2_with fail
        go_ret
        exact ⟨rfl, hk.out⟩
end Go.Proofs.YtkoajbmomipjkaaDoor
