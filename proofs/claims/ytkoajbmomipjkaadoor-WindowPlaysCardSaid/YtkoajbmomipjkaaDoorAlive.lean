/- The chapter's first examples. -/
import Derived.Test.YtkoajbmomipjkaaDoorHasW
namespace Go.Proofs.YtkoajbmomipjkaaDoor
open Go.RowKit
set_option linter.unusedVariables false

/-- Meet, of numbers that are written out. -/
theorem meetK {p N n N' : Nat} {Nz nz : Int} {x x' : BitVec 64} {m m' : Int} {b : Bool} {W0 w : World} (ht : Tab W0) (H : SL w [winB p true Nz m, .old W0 no]) (h1 : Nz = N) (h2 : nz = n) (h3 : m = U x)
    (hx : ~~~x ≠ 0#64) (hN : (N : Int) ≤ 4611686018427389000) (hq : roomM N n = true) (hw : withM N x n = (N', x')) (hb : (!metM N x n) = b) (h4 : m' = U x') {Nz' : Int} (h5 : Nz' = N') :
    Calls Tryd.prog 12 #[.pointer (some ⟨p, 0, none⟩), .int .u64 nz] w fun e w' => e = .returned (.tuple #[.bool b, .int .i64 0]) ∧ SL w' [winB p true Nz' m', .old W0 no] := by
  subst h1 h2 h3 h4 h5
  have htw : Tab w := ht.no (H.all (.old W0 no) (by simp))
  have := meet_yes H htw hx hN hq
  rw [hw, hb] at this
  exact this

set_option maxHeartbeats 2000000 in
theorem alive_c (W0 w : World) (ht : Tab W0) (H : SL w [.old W0 no]) : Calls Tryd.prog 8 #[] w fun e w' => e = .returned (.bool true) ∧ SL w' [.old W0 no] := by
  have ht' := Lib.hid ht
  have hc := Lib.hid (new_c H)
  clear ht H
  go_enter Tryd.func8, Tryd.ntmps8
  go_wp2_with fail
  refine hc.out.mono ?_
  rintro e w1 ⟨p, rfl, H⟩
  clear hc
  have ha := Lib.hid (at_c H 0 0)
  have hc := Lib.hid (meetK (N := 0) (n := 0) (x := 0#64) (N' := 1) (x' := 0#64) (m' := 0) (b := true) (Nz' := 1) (nz := 0) ht'.out H rfl rfl rfl (by decide) (by decide) (by decide) (by decide +kernel) (by decide +kernel) rfl rfl)
  clear H
  go_wp2_with fail
  refine ha.out.mono ?_
  rintro e w' ⟨rfl, rfl⟩
  go_wp2_with fail
  refine hc.out.mono ?_
  rintro e w2 ⟨rfl, H⟩
  clear ha hc
  have ha := Lib.hid (at_c H 1 0)
  have hc := Lib.hid (meetK (N := 1) (n := 2) (x := 0#64) (N' := 1) (x' := 1#64) (m' := 1) (b := true) (Nz' := 1) (nz := 2) ht'.out H rfl rfl rfl (by decide) (by decide) (by decide) (by decide +kernel) (by decide +kernel) rfl rfl)
  clear H
  go_wp2_with fail
  refine ha.out.mono ?_
  rintro e w' ⟨rfl, rfl⟩
  go_wp2_with fail
  refine hc.out.mono ?_
  rintro e w3 ⟨rfl, H⟩
  clear ha hc
  have hc := Lib.hid (meetK (N := 1) (n := 4) (x := 1#64) (N' := 1) (x' := 5#64) (m' := 5) (b := true) (Nz' := 1) (nz := 4) ht'.out H rfl rfl rfl (by decide) (by decide) (by decide) (by decide +kernel) (by decide +kernel) rfl rfl)
  clear H
  go_wp2_with fail
  refine hc.out.mono ?_
  rintro e w4 ⟨rfl, H⟩
  clear hc
  have ha := Lib.hid (at_c H 1 5)
  have hc := Lib.hid (meetK (N := 1) (n := 4) (x := 5#64) (N' := 1) (x' := 5#64) (m' := 5) (b := false) (Nz' := 1) (nz := 4) ht'.out H rfl rfl rfl (by decide) (by decide) (by decide) (by decide +kernel) (by decide +kernel) rfl rfl)
  clear H
  go_wp2_with fail
  refine ha.out.mono ?_
  rintro e w' ⟨rfl, rfl⟩
  go_wp2_with fail
  refine hc.out.mono ?_
  rintro e w5 ⟨rfl, H⟩
  clear ha hc
  have hc := Lib.hid (meetK (N := 1) (n := 1) (x := 5#64) (N' := 3) (x' := 1#64) (m' := 1) (b := true) (Nz' := 3) (nz := 1) ht'.out H rfl rfl rfl (by decide) (by decide) (by decide) (by decide +kernel) (by decide +kernel) rfl rfl)
  clear H
  go_wp2_with fail
  refine hc.out.mono ?_
  rintro e w6 ⟨rfl, H⟩
  clear hc
  have ha := Lib.hid (at_c H 3 1)
  have hH := Lib.hid H
  clear H
  go_wp2_with fail
  refine ha.out.mono ?_
  rintro e w' ⟨rfl, rfl⟩
  go_wp2_with fail
  go_ret
  exact ⟨rfl, hH.out.re (.drop (.same _))⟩
end Go.Proofs.YtkoajbmomipjkaaDoor
