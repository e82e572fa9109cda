/- The walk of the law BarrierNames. -/
import Derived.Test.YtejgkehcplajhaaNils
import Derived.Deep.CutBlock
import Derived.Deep.CutRange
namespace Go.Proofs.Ytejgkehcplajhaa
open Go.RowKit
set_option linter.unusedVariables false

def NSt (w : World) (p m b c : Nat) (a : Option Addr) (k : Nat) (V : World) : Prop := (k = 0 ∧ SL V (BAR p m a c [1, 4, 5] 7 7 9 (fun _ => false) [.blk b (iv [4, 1, 5]) 3, .old w no])) ∨ (k = 1 ∧ SL V (BAR p m a c [1, 4, 5] 7 7 9 (fun y => false || y == 4) [.blk b (iv [4, 1, 5]) 3, .old w no])) ∨ (k = 2 ∧ SL V (BAR p m a c [1, 4, 5] 7 7 9 (fun y => (false || y == 4) || y == 1) [.blk b (iv [4, 1, 5]) 3, .old w no])) ∨ (k = 3 ∧ SL V (BAR p m a c [1, 4, 5] 7 8 9 (fun _ => false) [.blk b (iv [4, 1, 5]) 3, .old w no]))

set_option maxRecDepth 100000 in
set_option maxHeartbeats 40000000 in
theorem walkNames (w : World) : Calls Try.prog 7 #[] w fun e w' => e = .returned (.bool true) ∧ Below w.heap.size w w' := by
  suffices h : Calls Try.prog 7 #[] w fun e w' => e = .returned (.bool true) ∧ Kp no w w' from h.mono fun _ _ ⟨q1, q2⟩ => ⟨q1, q2.self_below⟩
  have hS := Lib.hid (some_c w (SL.start w))
  go_enter Try.func7, Try.ntmps7
  go_wp2_with fail
  refine hS.out.mono ?_
  rintro e W0 ⟨p, m, a, c, rfl, H⟩
  have H1 := (H.alloc (iv [4, 1, 5]) 3).re (L' := BAR p m a c [1, 4, 5] 7 7 9 (fun _ => false) [.blk W0.heap.size (iv [4, 1, 5]) 3, .old w no]) (.step (.there (.here _ _)) (.step (.there (.here _ _)) (.step (.there (.here _ _)) (.same _))))
  have hH := Lib.hid H1
  clear H H1 hS
  go_wp2_with fail
  generalize hb : W0.heap.size = b at *
  go_loopw [53] (fun i V => ∃ k : Nat, i = .int .i64 k ∧ k ≤ 3 ∧ NSt w p m b c a k V) (fun i _ => 3 - (intOf i).toNat)
  case atStart => exact ⟨0, rfl, by omega, .inl ⟨rfl, hH.out⟩⟩
  case round =>
    clear hH hb
    obtain ⟨k, rfl, hk, hst⟩ := hrel
    rcases hst with ⟨rfl, H⟩ | ⟨rfl, H⟩ | ⟨rfl, H⟩ | ⟨rfl, H⟩
    · have hc := H.cell (b := b) (o := 0) (v := .int .i64 4) (.there (.there (.there (.here _ _)))) rfl
      have h2 := Lib.hid (bPassed H (by simp) (by decide) (by omega) (by omega) 4 7 (b := false) (er := 0) (f' := 7) (ps' := fun y => false || y == 4) (by kernel_rfl))
      clear H
      go_wp2_with fail
      refine h2.out.mono ?_
      rintro e W1 ⟨rfl, H⟩
      have hH := Lib.hid H
      clear h2 H hc
      go_wp2_with fail
      go_roundw
      case rel => exact ⟨1, rfl, by omega, .inr (.inl ⟨rfl, hH.out⟩)⟩
      case measure => (simp [intOf]; try omega)
    · have hc := H.cell (b := b) (o := 1) (v := .int .i64 1) (.there (.there (.there (.here _ _)))) rfl
      have h2 := Lib.hid (bPassed H (by simp) (by decide) (by omega) (by omega) 1 7 (b := false) (er := 0) (f' := 7) (ps' := fun y => (false || y == 4) || y == 1) (by kernel_rfl))
      clear H
      go_wp2_with fail
      refine h2.out.mono ?_
      rintro e W1 ⟨rfl, H⟩
      have hH := Lib.hid H
      clear h2 H hc
      go_wp2_with fail
      go_roundw
      case rel => exact ⟨2, rfl, by omega, .inr (.inr (.inl ⟨rfl, hH.out⟩))⟩
      case measure => (simp [intOf]; try omega)
    · have hc := H.cell (b := b) (o := 2) (v := .int .i64 5) (.there (.there (.there (.here _ _)))) rfl
      have h2 := Lib.hid (bPassed H (by simp) (by decide) (by omega) (by omega) 5 7 (b := true) (er := 0) (f' := 8) (ps' := fun _ => false) (by kernel_rfl))
      clear H
      go_wp2_with fail
      refine h2.out.mono ?_
      rintro e W1 ⟨rfl, H⟩
      have hH := Lib.hid H
      clear h2 H hc
      go_wp2_with fail
      go_roundw
      case rel => exact ⟨3, rfl, by omega, .inr (.inr (.inr ⟨rfl, hH.out⟩))⟩
      case measure => (simp [intOf]; try omega)
    · have c := Lib.hid (bPassed (show SL _ (BAR p m a c [1, 4, 5] 7 8 9 (fun _ => false) _) from H) (by simp) (by decide) (by omega) (by omega) 1 6 (b := false) (er := 250) (f' := 8) (ps' := fun _ => false) (by kernel_rfl))
      have hH := Lib.hid H
      clear H
      go_wp2_with fail
      refine c.out.mono ?_
      rintro e W1 ⟨rfl, H⟩
      clear c hH
      have c := Lib.hid (bPassed (show SL _ (BAR p m a c [1, 4, 5] 7 8 9 (fun _ => false) _) from H) (by simp) (by decide) (by omega) (by omega) 1 9 (b := false) (er := 250) (f' := 8) (ps' := fun _ => false) (by kernel_rfl))
      have hH := Lib.hid H
      clear H
      go_wp2_with fail
      refine c.out.mono ?_
      rintro e W2 ⟨rfl, H⟩
      clear c hH
      have c := Lib.hid (bPassed (show SL _ (BAR p m a c [1, 4, 5] 7 8 9 (fun _ => false) _) from H) (by simp) (by decide) (by omega) (by omega) 2 8 (b := false) (er := 250) (f' := 8) (ps' := fun _ => false) (by kernel_rfl))
      have hH := Lib.hid H
      clear H
      go_wp2_with fail
      refine c.out.mono ?_
      rintro e W3 ⟨rfl, H⟩
      clear c hH
      have c := Lib.hid (bPassed (show SL _ (BAR p m a c [1, 4, 5] 7 8 9 (fun _ => false) _) from H) (by simp) (by decide) (by omega) (by omega) 4 7 (b := false) (er := 0) (f' := 8) (ps' := fun _ => false) (by kernel_rfl))
      have hH := Lib.hid H
      clear H
      go_wp2_with fail
      refine c.out.mono ?_
      rintro e W4 ⟨rfl, H⟩
      clear c hH
      have c := Lib.hid (bPassed (show SL _ (BAR p m a c [1, 4, 5] 7 8 9 (fun _ => false) _) from H) (by simp) (by decide) (by omega) (by omega) 1 8 (b := false) (er := 0) (f' := 8) (ps' := fun y => false || y == 1) (by kernel_rfl))
      have hH := Lib.hid H
      clear H
      go_wp2_with fail
      refine c.out.mono ?_
      rintro e W5 ⟨rfl, H⟩
      clear c hH
      have c := Lib.hid (bPassed (show SL _ (BAR p m a c [1, 4, 5] 7 8 9 (fun y => false || y == 1) _) from H) (by simp) (by decide) (by omega) (by omega) 4 8 (b := false) (er := 0) (f' := 8) (ps' := fun y => (false || y == 1) || y == 4) (by kernel_rfl))
      have hH := Lib.hid H
      clear H
      go_wp2_with fail
      refine c.out.mono ?_
      rintro e W6 ⟨rfl, H⟩
      clear c hH
      have c := Lib.hid (bPassed (show SL _ (BAR p m a c [1, 4, 5] 7 8 9 (fun y => (false || y == 1) || y == 4) _) from H) (by simp) (by decide) (by omega) (by omega) 5 8 (b := true) (er := 0) (f' := 9) (ps' := fun _ => false) (by kernel_rfl))
      have hH := Lib.hid H
      clear H
      go_wp2_with fail
      refine c.out.mono ?_
      rintro e W7 ⟨rfl, H⟩
      clear c hH
      have c := Lib.hid (bFrame (show SL _ (BAR p m a c [1, 4, 5] 7 9 9 (fun _ => false) _) from H) (by simp))
      have hH := Lib.hid H
      clear H
      go_wp2_with fail
      refine c.out.mono ?_
      rintro e W8 ⟨rfl, H⟩
      clear c hH
      have c := Lib.hid (bPassed (show SL _ (BAR p m a c [1, 4, 5] 7 9 9 (fun _ => false) _) from H) (by simp) (by decide) (by omega) (by omega) 1 9 (b := false) (er := 250) (f' := 9) (ps' := fun _ => false) (by kernel_rfl))
      have hH := Lib.hid H
      clear H
      go_wp2_with fail
      refine c.out.mono ?_
      rintro e W9 ⟨rfl, H⟩
      clear c hH
      have c := Lib.hid (bPassed (show SL _ (BAR p m a c [1, 4, 5] 7 9 9 (fun _ => false) _) from H) (by simp) (by decide) (by omega) (by omega) 1 8 (b := false) (er := 0) (f' := 9) (ps' := fun _ => false) (by kernel_rfl))
      have hH := Lib.hid H
      clear H
      go_wp2_with fail
      refine c.out.mono ?_
      rintro e W10 ⟨rfl, H⟩
      clear c hH
      have hH := Lib.hid (show SL _ (BAR p m a c [1, 4, 5] 7 9 9 (fun _ => false) [.blk b (iv [4, 1, 5]) 3, .old w no]) from H)
      clear H
      go_upto_region 17 with (fail)
      go_cut [24] from 111 to 200 (fun t V => t = .bool true ∧ SL V (BAR p m a c [1, 4, 5] 7 9 9 (fun _ => false) [.blk b (iv [4, 1, 5]) 3, .old w no]))
      case first =>
        have H := hH.out
        clear hH
        have c := Lib.hid (bMissing (show SL _ (BAR p m a c [1, 4, 5] 7 9 9 (fun _ => false) _) from H) (by simp) (by decide) (X := []) (by kernel_rfl))
        have hH := Lib.hid H
        clear H
        go_wp2_with fail
        refine c.out.mono ?_
        rintro e W101 ⟨am, cm, rfl, H⟩
        clear c hH
        have c := Lib.hid (bHas (show SL _ (BAR p m a c [1, 4, 5] 7 9 9 (fun _ => false) _) from H) (by simp) (by decide) 1 8)
        have hH := Lib.hid H
        clear H
        go_wp2_with fail
        refine c.out.mono ?_
        rintro e w' ⟨rfl, rfl⟩
        have H := hH.out
        clear c hH
        have c := Lib.hid (bHas (show SL _ (BAR p m a c [1, 4, 5] 7 9 9 (fun _ => false) _) from H) (by simp) (by decide) 5 7)
        have hH := Lib.hid H
        clear H
        go_wp2_with fail
        refine c.out.mono ?_
        rintro e w' ⟨rfl, rfl⟩
        have H := hH.out
        clear c hH
        have c := Lib.hid (bHas (show SL _ (BAR p m a c [1, 4, 5] 7 9 9 (fun _ => false) _) from H) (by simp) (by decide) 1 6)
        have hH := Lib.hid H
        clear H
        go_wp2_with fail
        refine c.out.mono ?_
        rintro e w' ⟨rfl, rfl⟩
        have H := hH.out
        clear c hH
        have c := Lib.hid (bHas (show SL _ (BAR p m a c [1, 4, 5] 7 9 9 (fun _ => false) _) from H) (by simp) (by decide) 2 7)
        have hH := Lib.hid H
        clear H
        go_wp2_with fail
        refine c.out.mono ?_
        rintro e w' ⟨rfl, rfl⟩
        have H := hH.out
        clear c hH
        have c := Lib.hid (bHas (show SL _ (BAR p m a c [1, 4, 5] 7 9 9 (fun _ => false) _) from H) (by simp) (by decide) 1 9)
        have hH := Lib.hid H
        clear H
        go_wp2_with fail
        refine c.out.mono ?_
        rintro e w' ⟨rfl, rfl⟩
        have H := hH.out
        clear c hH
        have hH := Lib.hid H
        clear H
        go_wp2_with fail
        go_meet
        case rel => exact ⟨rfl, hH.out.re (.step (.here _ _) (.step (.here _ _) (.step (.here _ _) (.drop (.same _)))))⟩
      case rest =>
        obtain ⟨rfl, H⟩ := hcut
        clear hH
        have hH := Lib.hid H
        clear H
        go_upto_region 19 with (fail)
        have H := hH.out
        clear hH
        have H1 := H.alloc [.bool false, .int .i64 0] 25
        replace H := H1
        clear H1
        generalize wc.heap.size = gb at *
        have hH := Lib.hid (show SL _ (gateB gb false 0 :: BAR p m a c [1, 4, 5] 7 9 9 (fun _ => false) [.blk b (iv [4, 1, 5]) 3, .old w no]) from H)
        clear H
        go_cut [26] from 203 to 233 (fun t V => t = .bool true ∧ SL V (gateB gb true 4 :: BAR p m a c [1, 4, 5] 7 9 9 (fun _ => false) [.blk b (iv [4, 1, 5]) 3, .old w no]))
        case first =>
          have H := hH.out
          clear hH
          have c := Lib.hid (gate_last _ false 0 _ (show SL _ (gateB _ false 0 :: _) from H))
          have hH := Lib.hid H
          clear H
          go_wp2_with fail
          refine c.out.mono ?_
          rintro e w' ⟨rfl, rfl⟩
          have H := hH.out
          clear c hH
          have c := Lib.hid (gate_yes _ false 0 3 _ (show SL _ (gateB _ false 0 :: _) from H) (by simp) (by simp))
          have hH := Lib.hid H
          clear H
          go_wp2_with fail
          refine c.out.mono ?_
          rintro e W202 ⟨rfl, H⟩
          clear c hH
          have c := Lib.hid (gate_no _ true 3 3 _ (show SL _ (gateB _ true 3 :: _) from H) (by simp) (by simp))
          have hH := Lib.hid H
          clear H
          go_wp2_with fail
          refine c.out.mono ?_
          rintro e W203 ⟨rfl, H⟩
          clear c hH
          have c := Lib.hid (gate_no _ true 3 2 _ (show SL _ (gateB _ true 3 :: _) from H) (by simp) (by simp))
          have hH := Lib.hid H
          clear H
          go_wp2_with fail
          refine c.out.mono ?_
          rintro e W204 ⟨rfl, H⟩
          clear c hH
          have c := Lib.hid (gate_yes _ true 3 4 _ (show SL _ (gateB _ true 3 :: _) from H) (by simp) (by simp))
          have hH := Lib.hid H
          clear H
          go_wp2_with fail
          refine c.out.mono ?_
          rintro e W205 ⟨rfl, H⟩
          clear c hH
          have c := Lib.hid (gate_last _ true 4 _ (show SL _ (gateB _ true 4 :: _) from H))
          have hH := Lib.hid H
          clear H
          go_wp2_with fail
          refine c.out.mono ?_
          rintro e w' ⟨rfl, rfl⟩
          have H := hH.out
          clear c hH
          have c := Lib.hid (gate_no _ true 4 (-1) _ (show SL _ (gateB _ true 4 :: _) from H) (by simp) (by simp))
          have hH := Lib.hid H
          clear H
          go_wp2_with fail
          refine c.out.mono ?_
          rintro e W207 ⟨rfl, H⟩
          clear c hH
          have hH := Lib.hid H
          clear H
          go_wp2_with fail
          go_meet
          case rel => exact ⟨rfl, hH.out⟩
        case rest =>
          obtain ⟨rfl, H⟩ := hcut
          clear hH
          have c := Lib.hid (bNew_nil 0 1 _ H)
          have hH := Lib.hid H
          clear H
          go_wp2_with fail
          refine c.out.mono ?_
          rintro e w' ⟨rfl, rfl⟩
          have H := hH.out
          clear c hH
          have H1 := H.alloc (iv [1, 1]) 3
          replace H := H1
          clear H1
          have c := Lib.hid (keepSL H (bNew_no (c := 2) (ms := [1, 1]) (fr := 0) (n := 1) H (by decide) bad11))
          have hH := Lib.hid H
          clear H
          go_wp2_with fail
          refine c.out.mono ?_
          rintro e W12 ⟨rfl, H⟩
          clear c hH
          have H1 := H.alloc (iv [64]) 3
          replace H := H1
          clear H1
          have c := Lib.hid (keepSL H (bNew_no (c := 1) (ms := [64]) (fr := 0) (n := 1) H (by decide) bad64))
          have hH := Lib.hid H
          clear H
          go_wp2_with fail
          refine c.out.mono ?_
          rintro e W13 ⟨rfl, H⟩
          clear c hH
          have H1 := H.alloc (iv [0]) 3
          replace H := H1
          clear H1
          have c := Lib.hid (keepSL H (bNew_no (c := 1) (ms := [0]) (fr := 2) (n := 1) H (by decide) bad02))
          have hH := Lib.hid H
          clear H
          go_wp2_with fail
          refine c.out.mono ?_
          rintro e W14 ⟨rfl, H⟩
          clear c hH
          have H1 := H.alloc (iv [0]) 3
          replace H := H1
          clear H1
          have c := Lib.hid (keepSL H (bNew_no (c := 1) (ms := [0]) (fr := 0) (n := 1001) H (by decide) bad1001))
          have hH := Lib.hid H
          clear H
          go_wp2_with fail
          refine c.out.mono ?_
          rintro e W15 ⟨rfl, H⟩
          clear c hH
          have H1 := H.alloc (iv [0]) 3
          replace H := H1
          clear H1
          have c := Lib.hid (bNew_yes (c := 1) (ms := [0]) (fr := 3) (n := 3) H (by decide) good033)
          have hH := Lib.hid H
          clear H
          go_wp2_with fail
          refine c.out.mono ?_
          rintro e W16 ⟨po, mo, ao, co, rfl, H⟩
          clear c hH
          have c := Lib.hid (bFrame (show SL _ (BAR po mo ao co [0] 3 3 3 (fun _ => false) _) from H) (by simp))
          have hH := Lib.hid H
          clear H
          go_wp2_with fail
          refine c.out.mono ?_
          rintro e W17 ⟨rfl, H⟩
          clear c hH
          have H1 := H.alloc [.slice none 0 0, .int .i64 0, .int .i64 0, .int .i64 0, .map none] 65
          replace H := H1
          clear H1
          have c := Lib.hid (passed_nil 0 0 _ H)
          have hH := Lib.hid H
          clear H
          go_wp2_with fail
          refine c.out.mono ?_
          rintro e W18 ⟨rfl, H⟩
          clear c hH
          have c := Lib.hid (passed_zero _ 0 0 _ (show SL _ (zeroB _ :: _) from H))
          have hH := Lib.hid H
          clear H
          go_wp2_with fail
          refine c.out.mono ?_
          rintro e W19 ⟨rfl, H⟩
          clear c hH
          have c := Lib.hid (keepSL H (frame_nil _))
          have hH := Lib.hid H
          clear H
          go_wp2_with fail
          refine c.out.mono ?_
          rintro e W20 ⟨rfl, H⟩
          clear c hH
          have c := Lib.hid (alive_c _ H)
          have hH := Lib.hid H
          clear H
          go_wp2_with fail
          refine c.out.mono ?_
          rintro e W21 ⟨rfl, H⟩
          clear c hH
          have c := Lib.hid (Missing_zero _ _ (show SL _ (zeroB _ :: _) from H))
          have hH := Lib.hid H
          clear H
          go_wp2_with fail
          refine c.out.mono ?_
          rintro e W22 ⟨az, cz, rfl, H⟩
          clear c hH
          have c := Lib.hid (keepSL H (has_nil 0 0 _))
          have hH := Lib.hid H
          clear H
          go_wp2_with fail
          refine c.out.mono ?_
          rintro e W23 ⟨rfl, H⟩
          clear c hH
          have c := Lib.hid (keepSL H (copy_nil _))
          have hH := Lib.hid H
          clear H
          go_wp2_with fail
          refine c.out.mono ?_
          rintro e W24 ⟨rfl, H⟩
          clear c hH
          have c := Lib.hid (copy_zero _ _ (show SL _ (zeroB _ :: _) from H))
          have hH := Lib.hid H
          clear H
          go_wp2_with fail
          refine c.out.mono ?_
          rintro e w' ⟨rfl, rfl⟩
          have H := hH.out
          clear c hH
          have c := Lib.hid (keepSL H (gate_go_nil 1 _))
          have hH := Lib.hid H
          clear H
          go_wp2_with fail
          refine c.out.mono ?_
          rintro e W26 ⟨rfl, H⟩
          clear c hH
          have c := Lib.hid (keepSL H (gate_last_nil _))
          have hH := Lib.hid H
          clear H
          go_wp2_with fail
          refine c.out.mono ?_
          rintro e W27 ⟨rfl, H⟩
          clear c hH
          replace H := H.re (.step (.there (.there (.there (.there (.there (.there (.there (.there (.there (.there (.there (.there (.there (.there (.here _ _))))))))))))))) (.same _))
          have hk := Lib.hid (H.kp (.here _ _))
          clear H
          go_wp2_with fail
          go_ret
          exact ⟨rfl, hk.out⟩

end Go.Proofs.Ytejgkehcplajhaa
