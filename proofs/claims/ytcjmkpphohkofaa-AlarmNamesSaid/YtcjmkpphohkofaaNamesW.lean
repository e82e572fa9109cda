/- The walk of AlarmNames. Printed by gennames.py. -/
import Derived.Test.YtcjmkpphohkofaaNils
import Derived.Deep.CutBlock
import Derived.Deep.CutRange
namespace Go.Proofs.Ytcjmkpphohkofaa
open Go.RowKit Go.Shelf
set_option linter.unusedVariables false

def N1 : Ck := setS ⟨2, 5, []⟩ 7
def N2 : Ck := tickS N1
def N3 : Ck := tickS N2
def N4 : Ck := tickN 4 N3
def N5 : Ck := setS N4 7
def N6 : Ck := calmS N5 7
def N7 : Ck := dropS N6 8
def N8 : Ck := calmS N7 8
def N9 : Ck := setS N8 3
def N10 : Ck := setS N9 9
def N11 : Ck := belowS N10 9
def N12 : Ck := dropS N11 9
theorem setE0 (k : Int) : setE ⟨65536, 65536, []⟩ k = 0 := by unfold setE; rw [if_neg (by simp [hasK])]

set_option maxRecDepth 100000 in
set_option maxHeartbeats 40000000 in
theorem names_c (w : World) : Calls Try.prog 7 #[] w fun e w' => e = .returned (.bool true) ∧ Kp no w w' := by
  have hnew := Lib.hid (new_c 2 5 (by omega) (by omega) (SL.start w))
  go_enter Try.func7, Try.ntmps7
  go_wp2_with fail
  refine hnew.out.mono ?_
  rintro e v0 ⟨p, rfl, H⟩
  clear hnew
  have h1 := Lib.hid (set_c H (by omega) (k := 7) ⟨by decide, by decide⟩)
  rw [show setE ⟨2, 5, []⟩ 7 = 0 from by decide +kernel] at h1
  rw [show setS ⟨2, 5, []⟩ 7 = N1 from rfl] at h1
  clear H
  unfold ptrV at *
  go_wp2_with fail
  refine h1.out.mono ?_
  rintro e v1 ⟨rfl, H1⟩
  clear h1
  have H := H1
  clear H1
  have h2 := Lib.hid (tick_c H (by omega))
  rw [show ringsK N1.l = [] from by decide +kernel] at h2
  rw [show tickS N1 = N2 from rfl] at h2
  clear H
  unfold ptrV at *
  go_wp2_with fail
  refine h2.out.mono ?_
  rintro e v2 ⟨a1, c1, rfl, H2⟩
  clear h2
  have H := H2.re (.drop (.same _))
  clear H2
  have h3 := Lib.hid (tick_c H (by omega))
  rw [show ringsK N2.l = [7] from by decide +kernel] at h3
  rw [show tickS N2 = N3 from rfl] at h3
  clear H
  unfold ptrV at *
  go_wp2_with fail
  refine h3.out.mono ?_
  rintro e v3 ⟨a2, c2, rfl, H3⟩
  clear h3
  have H := H3
  clear H3
  obtain ⟨la, lc, e1, -, hlc, hlr⟩ := own_u64 H.tail
  simp only [Value.slice.injEq] at e1
  obtain ⟨rfl, -, rfl⟩ := e1
  obtain ⟨lb, lo, rfl, -⟩ := hlr 0 (by decide)
  have hlrd : Hid (∀ V R A, CAt R p A [.own 30 1 (.slice (some ⟨lb, lo, none⟩) 1 c2) 1 (uv [7]), .old w no] V → V.cell? ⟨lb, lo, none⟩ = some (.int .u64 7)) := Lib.hid fun V R A h => by
    obtain ⟨a', c', e2, -, -, h2⟩ := own_u64 h.tail
    simp only [Value.slice.injEq] at e2
    obtain ⟨rfl, -, rfl⟩ := e2
    obtain ⟨b3, o3, e3, h3⟩ := h2 0 (by decide)
    cases e3
    exact h3
  have hlc1 : 1 ≤ c2 := hlc
  have e71 : ([7] : List Int).length = 1 := rfl
  rw [e71] at H ⊢
  clear hlc hlr
  have h4 := Lib.hid (left_c H 7)
  rw [show (theK N3.l 7).left = 4 from by decide +kernel] at h4
  clear H
  unfold ptrV at *
  go_wp2_with fail
  refine h4.out.mono ?_
  rintro e v4 ⟨rfl, H4⟩
  clear h4
  have H := H4
  clear H4
  rw [show decide ((0 : Int) < 4) = true from by decide]
  have h5 := Lib.hid (rings_c H 4 (by omega) (by omega))
  rw [show tickN 4 N3 = N4 from rfl] at h5
  clear H
  unfold ptrV at *
  go_wp2_with fail
  refine h5.out.mono ?_
  rintro e v5 ⟨a5, c5, rfl, H5⟩
  clear h5
  have H := H5.re (.drop (.same _))
  clear H5
  have h6 := Lib.hid (left_c H 7)
  rw [show (theK N4.l 7).left = 5 from by decide +kernel] at h6
  clear H
  unfold ptrV at *
  go_wp2_with fail
  refine h6.out.mono ?_
  rintro e v6 ⟨rfl, H6⟩
  clear h6
  have H := H6
  clear H6
  rw [show decide ((0 : Int) < 5) = true from by decide]
  have h7 := Lib.hid (set_c H (by omega) (k := 7) ⟨by decide, by decide⟩)
  rw [show setE N4 7 = 200 from by decide +kernel] at h7
  rw [show setS N4 7 = N5 from rfl] at h7
  clear H
  unfold ptrV at *
  go_wp2_with fail
  refine h7.out.mono ?_
  rintro e v7 ⟨rfl, H7⟩
  clear h7
  have H := H7
  clear H7
  have h8 := Lib.hid (calm_c H 7)
  rw [show hasE N5 7 = 0 from by decide +kernel] at h8
  rw [show calmS N5 7 = N6 from rfl] at h8
  clear H
  unfold ptrV at *
  go_wp2_with fail
  refine h8.out.mono ?_
  rintro e v8 ⟨rfl, H8⟩
  clear h8
  have H := H8
  clear H8
  have h9 := Lib.hid (left_c H 7)
  rw [show (theK N6.l 7).left = 2 from by decide +kernel] at h9
  clear H
  unfold ptrV at *
  go_wp2_with fail
  refine h9.out.mono ?_
  rintro e v9 ⟨rfl, H9⟩
  clear h9
  have H := H9
  clear H9
  rw [show decide ((0 : Int) < 2) = true from by decide]
  have h10 := Lib.hid (drop_c H 8)
  rw [show hasE N6 8 = 200 from by decide +kernel] at h10
  rw [show dropS N6 8 = N7 from rfl] at h10
  clear H
  unfold ptrV at *
  go_wp2_with fail
  refine h10.out.mono ?_
  rintro e v10 ⟨rfl, H10⟩
  clear h10
  have H := H10
  clear H10
  have h11 := Lib.hid (calm_c H 8)
  rw [show hasE N7 8 = 200 from by decide +kernel] at h11
  rw [show calmS N7 8 = N8 from rfl] at h11
  clear H
  unfold ptrV at *
  go_wp2_with fail
  refine h11.out.mono ?_
  rintro e v11 ⟨rfl, H11⟩
  clear h11
  have H := H11
  clear H11
  have h12 := Lib.hid (set_c H (by omega) (k := 3) ⟨by decide, by decide⟩)
  rw [show setE N8 3 = 0 from by decide +kernel] at h12
  rw [show setS N8 3 = N9 from rfl] at h12
  clear H
  unfold ptrV at *
  go_wp2_with fail
  refine h12.out.mono ?_
  rintro e v12 ⟨rfl, H12⟩
  clear h12
  have H := H12
  clear H12
  have h13 := Lib.hid (set_c H (by omega) (k := 9) ⟨by decide, by decide⟩)
  rw [show setE N9 9 = 0 from by decide +kernel] at h13
  rw [show setS N9 9 = N10 from rfl] at h13
  clear H
  unfold ptrV at *
  go_wp2_with fail
  refine h13.out.mono ?_
  rintro e v13 ⟨rfl, H13⟩
  clear h13
  have H := H13
  clear H13
  have h14 := Lib.hid (keys_c H)
  rw [show N10.l.length = 3 from by decide +kernel] at h14
  rw [show keysK N10.l = [3, 7, 9] from by decide +kernel] at h14
  clear H
  unfold ptrV at *
  go_wp2_with fail
  refine h14.out.mono ?_
  rintro e v14 ⟨ka, kc, rfl, H14⟩
  clear h14
  have H := H14
  clear H14
  have hkrd : Hid (∀ V R A, CAt R p A [.own 30 1 (.slice ka 3 kc) 3 (uv [3, 7, 9]), .own 30 1 (.slice (some ⟨lb, lo, none⟩) 1 c2) 1 (uv [7]), .old w no] V → RdU V ka [3, 7, 9] ∧ 3 ≤ kc) := Lib.hid fun V R A h => by
    obtain ⟨a', c', e2, -, h1, h2⟩ := own_u64 h.tail
    simp only [Value.slice.injEq] at e2
    obtain ⟨rfl, -, rfl⟩ := e2
    exact ⟨h2, h1⟩
  have h15 := Lib.hid (below_c H 9)
  rw [show ({ N10 with l := fromK N10.l 9 } : Ck) = N11 from rfl] at h15
  rw [show N10.l.length - (fromK N10.l 9).length = 2 from by decide +kernel] at h15
  clear H
  unfold ptrV at *
  go_wp2_with fail
  refine h15.out.mono ?_
  rintro e v15 ⟨rfl, H15⟩
  clear h15
  have H := H15
  clear H15
  have h16 := Lib.hid (next_yes H (by decide +kernel))
  rw [show leastK N11.b N11.l = 2 from by decide +kernel] at h16
  clear H
  unfold ptrV at *
  go_wp2_with fail
  refine h16.out.mono ?_
  rintro e v16 ⟨rfl, H16⟩
  clear h16
  have H := H16
  clear H16
  have h17 := Lib.hid (drop_c H 9)
  rw [show hasE N11 9 = 0 from by decide +kernel] at h17
  rw [show dropS N11 9 = N12 from rfl] at h17
  clear H
  unfold ptrV at *
  go_wp2_with fail
  refine h17.out.mono ?_
  rintro e v17 ⟨rfl, H17⟩
  clear h17
  have H := H17
  clear H17
  have h20 := Lib.hid (next_no H (by decide +kernel))
  have hH := Lib.hid H
  clear H
  unfold ptrV at *
  go_wp2_with fail
  refine h20.out.mono ?_
  rintro e v20 ⟨rfl, rfl⟩
  clear h20
  have l0 := hlrd.out _ _ _ (hH.out.re (.drop (.same _)))
  obtain ⟨krd, kle⟩ := hkrd.out _ _ _ hH.out
  have hH2 := Lib.hid (hH.out.tail.tail.tail.alloc (uv [3, 7, 9]) 30)
  have hnum := Lib.hid (numbers_c [3, 7, 9] (by decide) ka (some ⟨v17.heap.size, 0, none⟩) kc 3 (v17.alloc (.cells (uv [3, 7, 9]).toArray 30)) (krd.no ((Kp.refl no v17).alloc _)) (rdU_blk hH2.out (.here _ _)) kle (by decide))
  have e3 : ([3, 7, 9] : List Int).length = 3 := rfl
  have huv : uv [3, 7, 9] = [.int .u64 3, .int .u64 7, .int .u64 9] := rfl
  rw [huv] at hH2 hnum
  rw [e3] at hnum
  clear hH hlrd hkrd krd kle e71
  go_wp2_with fail
  refine hnum.out.mono ?_
  rintro e x1 ⟨rfl, hk⟩
  have hH := Lib.hid ((hH2.out.quiet hk).tail)
  clear hnum hk hH2 huv e3 l0
  have hno := Lib.hid (fun a b V h => new_no a b h V)
  go_wp2_with fail
  refine (hno.out 0 5 _ (by omega)).mono ?_
  rintro e x2 ⟨rfl, rfl⟩
  go_wp2_with fail
  refine (hno.out 6 5 _ (by omega)).mono ?_
  rintro e x2 ⟨rfl, rfl⟩
  go_wp2_with fail
  refine (hno.out 1 65537 _ (by omega)).mono ?_
  rintro e x2 ⟨rfl, rfl⟩
  have hnew := Lib.hid (new_c 65536 65536 (by omega) (by omega) hH.out)
  clear hno hH
  go_wp2_with fail
  refine hnew.out.mono ?_
  rintro e x3 ⟨q, rfl, H⟩
  have hF : Hid (CAt 0 q (FS 0) [.old w no] x3) := Lib.hid H
  clear hnew H
  unfold ptrV at *
  go_wp2_with fail
  go_loopw [30] (fun i V => ∃ j : Nat, j ≤ 256 ∧ i = .int .u64 j ∧ Hid (CAt 0 q (FS j) [.old w no] V)) (fun i _ => 256 - (intOf i).toNat)
  case atStart => exact ⟨0, by omega, rfl, hF⟩
  case round =>
    clear hF
    obtain ⟨j, hj, rfl, hR⟩ := hrel
    by_cases hjn : j < 256
    · have hset := Lib.hid (set_c hR.out (by omega) (k := 18446744073709551615 - j) ⟨by omega, by omega⟩)
      rw [FS_set hjn, show setS (FS j) (18446744073709551615 - j) = FS (j + 1) from rfl] at hset
      clear hR
      unfold ptrV at *
      go_wp2_with fail
      refine hset.out.mono ?_
      rintro e x4 ⟨rfl, H4⟩
      have hf := Lib.hid H4
      clear hset H4
      go_wp2_with fail
      go_roundw
      case rel => exact ⟨j + 1, by omega, by go_num, hf⟩
      case measure => (simp [intOf]; try omega)
    · obtain rfl : j = 256 := by omega
      have hR2 := Lib.hid hR.out
      clear hR
      obtain ⟨F, hF⟩ : ∃ F, FS 256 = F := ⟨_, rfl⟩
      obtain ⟨f1, f2, f3, f4⟩ := FS_full hF
      rw [hF] at hR2
      have hs1 := Lib.hid (set_c hR2.out (by omega) (k := 0) ⟨by decide, by decide⟩)
      rw [f1, f2] at hs1
      have hd1 := Lib.hid (fun V (h : CAt 0 q F [.old w no] V) => drop_c h 18446744073709551615)
      rw [f3] at hd1
      have hs2 := Lib.hid (fun V (h : CAt 0 q (dropS F 18446744073709551615) [.old w no] V) => set_c h (by omega) (k := 0) ⟨by decide, by decide⟩)
      rw [f4] at hs2
      clear hR2 f1 f2 f3 f4 hF hj hjn
      rw [show ((256 : Nat) : Int) = 256 from rfl]
      unfold ptrV at *
      go_wp2_with fail
      refine hs1.out.mono ?_
      rintro e x4 ⟨rfl, H4⟩
      have hd2 := Lib.hid (hd1.out _ H4)
      clear hs1 hd1 H4
      go_wp2_with fail
      refine hd2.out.mono ?_
      rintro e x5 ⟨rfl, H5⟩
      have hs3 := Lib.hid (hs2.out _ H5)
      clear hs2 hd2 H5
      go_wp2_with fail
      refine hs3.out.mono ?_
      rintro e x6 ⟨rfl, H6⟩
      have hH := Lib.hid (H6.tail.alloc [.int .i64 0, .int .i64 0, .slice none 0 0] 54)
      clear hs3 H6
      generalize setS _ _ = s9 at *
      go_wp2_with fail
      generalize x6.alloc (.cells [Value.int .i64 0, .int .i64 0, .slice none 0 0].toArray 54) = x7 at *
      generalize x6.heap.size = z at *
      have hc := Lib.hid (nleft_c 0 hH.out)
      clear hH
      go_wp2_with fail
      refine hc.out.mono ?_
      rintro e x8 ⟨rfl, H8⟩
      have hH := Lib.hid H8
      clear H8
      clear hc
      have hc := Lib.hid (fun V => nset_c 0 V)
      go_wp2_with fail
      refine (hc.out _).mono ?_
      rintro e x8 ⟨rfl, rfl⟩
      clear hc
      have hc := Lib.hid (zdrop_c 0 hH.out (.here _ _))
      unfold ptrV at hc
      clear hH
      go_wp2_with fail
      refine hc.out.mono ?_
      rintro e x8 ⟨rfl, H8⟩
      have hH := Lib.hid H8
      clear H8
      clear hc
      have hc := Lib.hid (ncalm_c 0 hH.out)
      clear hH
      go_wp2_with fail
      refine hc.out.mono ?_
      rintro e x8 ⟨rfl, H8⟩
      have hH := Lib.hid H8
      clear H8
      clear hc
      have hc := Lib.hid (zbelow_c 9 hH.out (.here _ _))
      unfold ptrV at hc
      go_wp2_with fail
      refine hc.out.mono ?_
      rintro e x8 ⟨rfl, rfl⟩
      clear hc
      have hc := Lib.hid (nrung_c 0 hH.out)
      clear hH
      go_wp2_with fail
      refine hc.out.mono ?_
      rintro e x8 ⟨rfl, H8⟩
      have hH := Lib.hid H8
      clear H8
      clear hc
      have hc := Lib.hid (ntick_c hH.out)
      clear hH
      go_wp2_with fail
      refine hc.out.mono ?_
      rintro e x8 ⟨rfl, H8⟩
      have hH := Lib.hid H8
      clear H8
      clear hc
      have hc := Lib.hid (zkeys_c hH.out (.here _ _))
      unfold ptrV at hc
      go_wp2_with fail
      refine hc.out.mono ?_
      rintro e x8 ⟨rfl, rfl⟩
      clear hc
      have hc := Lib.hid (fun V => ncopy_c V)
      go_wp2_with fail
      refine (hc.out _).mono ?_
      rintro e x8 ⟨rfl, rfl⟩
      clear hc
      have hc := Lib.hid (alive_c hH.out)
      clear hH
      go_wp2_with fail
      refine hc.out.mono ?_
      rintro e x8 ⟨rfl, H8⟩
      have hH := Lib.hid H8
      clear H8
      clear hc
      have hfin := Lib.hid (hH.out.tail.kp (.here _ _))
      clear hH
      go_wp2_with fail
      go_ret
      exact ⟨rfl, hfin.out⟩
theorem walkNames (w : World) : Calls Try.prog 7 #[] w fun r w' => r = .returned (.bool true) ∧ Below w.heap.size w w' :=
  (names_c w).mono fun _ _ ⟨h1, h2⟩ => ⟨h1, h2.self_below⟩
end Go.Proofs.Ytcjmkpphohkofaa
