/- The walk of the law WindowNames (printed by gennames.py). -/
import Derived.Test.YtkoajbmomipjkaaDoorKonst
import Derived.Test.YtkoajbmomipjkaaDoorRoomT
namespace Go.Proofs.YtkoajbmomipjkaaDoor
open Go.RowKit
set_option linter.unusedVariables false

set_option maxRecDepth 100000 in
set_option maxHeartbeats 40000000 in
theorem walkNames (w : World) (ht : Lib.TabIs Tryd.prog w "math/bits.deBruijn64tab" .u8 tz64) : Calls Tryd.prog 7 #[] w fun e w' => e = .returned (.bool true) ∧ Below w.heap.size w w' := by
  have ht' := Lib.hid (tab_of ht)
  have H := SL.start w
  clear ht
  go_enter Tryd.func7, Tryd.ntmps7
  have c := Lib.hid (ofYes H (by decide) (by decide) (show mayV 3 1 = true from by decide +kernel))
  have hH := Lib.hid H
  clear H
  go_wp2_with fail
  refine c.out.mono ?_
  rintro e W1 ⟨pw, rfl, H⟩
  clear c hH
  have c := Lib.hid (meetL (nz := 66) H (by simp) ht'.out 3 66 1#64 3 4611686018427387905#64 true 3 4611686018427387905 rfl rfl rfl (by decide) (by decide) (by decide +kernel) (by decide +kernel) (by decide +kernel) rfl rfl)
  have hH := Lib.hid H
  clear H
  go_wp2_with fail
  refine c.out.mono ?_
  rintro e W2 ⟨rfl, H⟩
  clear c hH
  have c := Lib.hid (atL H 3 4611686018427387905 rfl rfl)
  have hH := Lib.hid H
  clear H
  go_wp2_with fail
  refine c.out.mono ?_
  rintro e w' ⟨rfl, rfl⟩
  have H := hH.out
  clear c hH
  have c := Lib.hid (keepL H (meet_no (n := 67) H (by decide +kernel) (by decide) (by decide)))
  have hH := Lib.hid H
  clear H
  go_wp2_with fail
  refine c.out.mono ?_
  rintro e W4 ⟨rfl, H⟩
  clear c hH
  have c := Lib.hid (toldL (N2z := 5) (m2z := 0) H (by simp) ht'.out 3 4611686018427387905#64 5 0#64 5 1152921504606846976#64 1 5 1152921504606846976 rfl rfl rfl rfl (by decide) (by decide) (by decide) (by decide) (by decide +kernel) (by decide +kernel) (by decide +kernel) (by decide +kernel) rfl rfl)
  have hH := Lib.hid H
  clear H
  go_wp2_with fail
  refine c.out.mono ?_
  rintro e W5 ⟨rfl, H⟩
  clear c hH
  have c := Lib.hid (atL H 5 1152921504606846976 rfl rfl)
  have hH := Lib.hid H
  clear H
  go_wp2_with fail
  refine c.out.mono ?_
  rintro e w' ⟨rfl, rfl⟩
  have H := hH.out
  clear c hH
  have c := Lib.hid (hasL (nz := 66) H (by simp) ht'.out 5 66 1152921504606846976#64 true rfl rfl rfl (by decide) (by decide +kernel))
  have hH := Lib.hid H
  clear H
  go_wp2_with fail
  refine c.out.mono ?_
  rintro e W7 ⟨rfl, H⟩
  clear c hH
  have c := Lib.hid (hasL (nz := 5) H (by simp) ht'.out 5 5 1152921504606846976#64 false rfl rfl rfl (by decide) (by decide +kernel))
  have hH := Lib.hid H
  clear H
  go_wp2_with fail
  refine c.out.mono ?_
  rintro e W8 ⟨rfl, H⟩
  clear c hH
  have c := Lib.hid (hasL (nz := 4) H (by simp) ht'.out 5 4 1152921504606846976#64 true rfl rfl rfl (by decide) (by decide +kernel))
  have hH := Lib.hid H
  clear H
  go_wp2_with fail
  refine c.out.mono ?_
  rintro e W9 ⟨rfl, H⟩
  clear c hH
  have c := Lib.hid (hasL (nz := 67) H (by simp) ht'.out 5 67 1152921504606846976#64 false rfl rfl rfl (by decide) (by decide +kernel))
  have hH := Lib.hid H
  clear H
  go_wp2_with fail
  refine c.out.mono ?_
  rintro e W10 ⟨rfl, H⟩
  clear c hH
  have c := Lib.hid (roomL H 68 (by decide) (by decide) true (by decide +kernel))
  have hH := Lib.hid H
  clear H
  go_wp2_with fail
  refine c.out.mono ?_
  rintro e w' ⟨rfl, rfl⟩
  have H := hH.out
  clear c hH
  have c := Lib.hid (roomL H 69 (by decide) (by decide) false (by decide +kernel))
  have hH := Lib.hid H
  clear H
  go_wp2_with fail
  refine c.out.mono ?_
  rintro e w' ⟨rfl, rfl⟩
  have H := hH.out
  clear c hH
  have c := Lib.hid (ofYes H (by decide) (by decide) (show mayV 0 5 = true from by decide +kernel))
  have hH := Lib.hid H
  clear H
  go_wp2_with fail
  refine c.out.mono ?_
  rintro e W13 ⟨pv, rfl, H⟩
  clear c hH
  have c := Lib.hid (holesL H (by simp) ht'.out 0 5#64 [0, 2] rfl rfl (by decide) holes05)
  have hH := Lib.hid H
  clear H
  go_wp2_with fail
  refine c.out.mono ?_
  rintro e W14 ⟨av, cv, rfl, H⟩
  clear c hH
  obtain ⟨gv, kv, hv, -, -, -, -, -, -, -⟩ := (OwnK.form (show OwnK _ 0 22 1 _ _ _ from H.head)).resolve_left (by rintro ⟨-, h, -⟩; cases h)
  cases hv
  replace H := H.re (.step (.there (.here _ _)) (.same _))
  have c := Lib.hid (lastLK H (by decide) (by decide) 3 true (by decide +kernel))
  have hH := Lib.hid H
  clear H
  go_wp2_with fail
  refine c.out.mono ?_
  rintro e W15 ⟨rfl, H⟩
  clear c hH
  have c := Lib.hid (toldL (N2z := 0) (m2z := 2) H (by simp) ht'.out 0 5#64 0 2#64 0 7#64 1 0 7 rfl rfl rfl rfl (by decide) (by decide) (by decide) (by decide) (by decide +kernel) (by decide +kernel) (by decide +kernel) (by decide +kernel) rfl rfl)
  have hH := Lib.hid H
  clear H
  go_wp2_with fail
  refine c.out.mono ?_
  rintro e W16 ⟨rfl, H⟩
  clear c hH
  have c := Lib.hid (toldL (N2z := 1) (m2z := 0) H (by simp) ht'.out 0 7#64 1 0#64 4 0#64 1 4 0 rfl rfl rfl rfl (by decide) (by decide) (by decide) (by decide) (by decide +kernel) (by decide +kernel) (by decide +kernel) (by decide +kernel) rfl rfl)
  have hH := Lib.hid H
  clear H
  go_wp2_with fail
  refine c.out.mono ?_
  rintro e W17 ⟨rfl, H⟩
  clear c hH
  replace H := H.re (.step (.there (.here _ _)) (.same _))
  have hoc := (OwnK.rd (show OwnK _ 0 22 1 _ _ _ from H.head)).2.1
  have g0 : _ := hoc 0 (by decide)
  have g1 : _ := hoc 1 (by decide)
  obtain ⟨_, _, e0, g0⟩ := g0
  obtain ⟨_, _, e1, g1⟩ := g1
  cases e0
  cases e1
  simp only [Nat.zero_add, uv, List.map_cons, List.map_nil, List.getD_eq_getElem?_getD, List.getElem?_cons_zero, List.getElem?_cons_succ, Option.getD_some, Int.cast_ofNat_Int] at g0 g1
  clear hoc
  replace H := H.re (.step (.there (.here _ _)) (.same _))
  have c := Lib.hid (atL H 4 0 rfl rfl)
  have hH := Lib.hid H
  clear H
  go_wp2_with fail
  refine c.out.mono ?_
  rintro e w' ⟨rfl, rfl⟩
  have H := hH.out
  clear c hH
  clear g0 g1
  have c := Lib.hid (ofNo H (by decide) (by decide) (show mayV 4611686018427387905 0 = false from by decide +kernel))
  have hH := Lib.hid H
  clear H
  go_wp2_with fail
  refine c.out.mono ?_
  rintro e W19 ⟨rfl, H⟩
  clear c hH
  have c := Lib.hid (ofNo H (by decide) (by decide) (show mayV 0 9223372036854775808 = false from by decide +kernel))
  have hH := Lib.hid H
  clear H
  go_wp2_with fail
  refine c.out.mono ?_
  rintro e W20 ⟨rfl, H⟩
  clear c hH
  have c := Lib.hid (ofNo H (by decide) (by decide) (show mayV 4611686018427387903 1 = false from by decide +kernel))
  have hH := Lib.hid H
  clear H
  go_wp2_with fail
  refine c.out.mono ?_
  rintro e W21 ⟨rfl, H⟩
  clear c hH
  have c := Lib.hid (ofYes H (by decide) (by decide) (show mayV 4611686018427387902 1 = true from by decide +kernel))
  have hH := Lib.hid H
  clear H
  go_wp2_with fail
  refine c.out.mono ?_
  rintro e W22 ⟨pu, rfl, H⟩
  clear c hH
  have c := Lib.hid (meetL (nz := 4611686018427387902) H (by simp) ht'.out 4611686018427387902 4611686018427387902 1#64 4611686018427387904 0#64 true 4611686018427387904 0 rfl rfl rfl (by decide) (by decide) (by decide +kernel) (by decide +kernel) (by decide +kernel) rfl rfl)
  have hH := Lib.hid H
  clear H
  go_wp2_with fail
  refine c.out.mono ?_
  rintro e W23 ⟨rfl, H⟩
  clear c hH
  have c := Lib.hid (keepL H (meet_no (n := 4611686018427387904) H (by decide +kernel) (by decide) (by decide)))
  have hH := Lib.hid H
  clear H
  go_wp2_with fail
  refine c.out.mono ?_
  rintro e W24 ⟨rfl, H⟩
  clear c hH
  have c := Lib.hid (told_no (N2 := 0) (m2 := 9223372036854775808) H (by decide) (by decide) (by decide +kernel))
  have hH := Lib.hid H
  clear H
  go_wp2_with fail
  refine c.out.mono ?_
  rintro e W25 ⟨rfl, H⟩
  clear c hH
  have c := Lib.hid (atL H 4611686018427387904 0 rfl rfl)
  have hH := Lib.hid H
  clear H
  go_wp2_with fail
  refine c.out.mono ?_
  rintro e w' ⟨rfl, rfl⟩
  have H := hH.out
  clear c hH
  have H1 := H.alloc [.bool false, .int .u64 0, .int .u64 0] 60
  replace H := H1
  clear H1
  have c := Lib.hid (keepL H (none_meet 0 _))
  have hH := Lib.hid H
  clear H
  go_wp2_with fail
  refine c.out.mono ?_
  rintro e W27 ⟨rfl, H⟩
  clear c hH
  have c := Lib.hid (keepL H (zero_told (show SL _ (winB _ false 0 0 :: _) from H) 0 0))
  have hH := Lib.hid H
  clear H
  go_wp2_with fail
  refine c.out.mono ?_
  rintro e W28 ⟨rfl, H⟩
  clear c hH
  have c := Lib.hid (keepL H (none_last _))
  have hH := Lib.hid H
  clear H
  go_wp2_with fail
  refine c.out.mono ?_
  rintro e W29 ⟨rfl, H⟩
  clear c hH
  have c := Lib.hid (new_c H)
  have hH := Lib.hid H
  clear H
  go_wp2_with fail
  refine c.out.mono ?_
  rintro e W30 ⟨pn, rfl, H⟩
  clear c hH
  have c := Lib.hid (lastLK H (by decide) (by decide) 0 false (by decide +kernel))
  have hH := Lib.hid H
  clear H
  go_wp2_with fail
  refine c.out.mono ?_
  rintro e W31 ⟨rfl, H⟩
  clear c hH
  have c := Lib.hid (alive_L H (by simp) ht'.out)
  have hH := Lib.hid H
  clear H
  go_wp2_with fail
  refine c.out.mono ?_
  rintro e W32 ⟨rfl, H⟩
  clear c hH
  have c := Lib.hid (none_has 0 H)
  have hH := Lib.hid H
  clear H
  go_wp2_with fail
  refine c.out.mono ?_
  rintro e W33 ⟨rfl, H⟩
  clear c hH
  replace H := H.re (.step (.there (.here _ _)) (.same _))
  have c := Lib.hid (keepL H (zero_room (show SL _ (winB _ false 0 0 :: _) from H) 0))
  have hH := Lib.hid H
  clear H
  go_wp2_with fail
  refine c.out.mono ?_
  rintro e W34 ⟨rfl, H⟩
  clear c hH
  have c := Lib.hid (keepL H (none_next _))
  have hH := Lib.hid H
  clear H
  go_wp2_with fail
  refine c.out.mono ?_
  rintro e W35 ⟨rfl, H⟩
  clear c hH
  have c := Lib.hid (keepL H (zero_mask (show SL _ (winB _ false 0 0 :: _) from H)))
  have hH := Lib.hid H
  clear H
  go_wp2_with fail
  refine c.out.mono ?_
  rintro e W36 ⟨rfl, H⟩
  clear c hH
  have c := Lib.hid (keepL H (zero_holes (show SL _ (winB _ false 0 0 :: _) from H)))
  have hH := Lib.hid H
  clear H
  go_wp2_with fail
  refine c.out.mono ?_
  rintro e W37 ⟨rfl, H⟩
  clear c hH
  have c := Lib.hid (keepL H (none_copy _))
  have hH := Lib.hid H
  clear H
  go_wp2_with fail
  refine c.out.mono ?_
  rintro e W38 ⟨rfl, H⟩
  clear c hH
  replace H := H.re (.step (.there (.there (.there (.there (.there (.there (.here _ _))))))) (.same _))
  have hk := Lib.hid (H.kp (.here _ _))
  clear H
  go_wp2_with fail
  go_ret
  exact ⟨rfl, hk.out.self_below⟩
end Go.Proofs.YtkoajbmomipjkaaDoor
