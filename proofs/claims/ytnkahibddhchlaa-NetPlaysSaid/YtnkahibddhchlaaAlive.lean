/- The walk of the law's alive. -/
import Derived.Test.YtnkahibddhchlaaNAt
import Derived.Lib.SlBytesConst
namespace Go.Proofs.Ytnkahibddhchlaa
open Go.RowKit
set_option linter.unusedVariables false

def A0 : NSt := ⟨3, 2, t0, fun _ => []⟩
def A1 : NSt := (A0.send 0 1 [97]).2
def A2 : NSt := (A1.send 0 1 [98]).2
def A3 : NSt := (A2.send 0 1 [99]).2
def A4 : NSt := A3.flip 0 1 1 0
def A5 : NSt := { A4.gone 0 1 1 with t := { A4.t with delivered := A4.t.delivered + 1 } }

theorem okI_0 : okI 0 := okI_nat (by decide) (by decide)
theorem okI_1 : okI 1 := okI_nat (by decide) (by decide)
theorem alive_c {w : World} {L : List Pc} (H : SL w L) :
    Calls Try.prog 9 #[] w fun e w' => e = .returned (.bool true) ∧ SL w' L := by
  have hnew := Lib.hid (new_at 3 2 (by omega) (by omega) (by omega) (by omega) H)
  have kc := fun (w : World) (C : Array Value) (n c : Nat) => Lib.run_convert_bytes_const (P := Try.prog) w 29 5 C n c Try.underlying29 Try.underlying5
  clear H
  go_enter Try.func9, Try.ntmps9
  go_wp2_with fail
  refine hnew.out.mono ?_
  rintro e w1 ⟨p, rfl, N⟩
  clear hnew
  have hc := Lib.hid (send_c (N.allocO (.cells (bv [97]).toArray 5 (1, 2))) (Tok.zero _ (by decide)) okI_0 okI_1 (some ⟨w1.heap.size, 0, none⟩) 1 [97] (fun V h => ⟨rdB_obj h, fun h => by cases h⟩))
  rw [show (NSt.send ⟨3, 2, t0, fun _ => []⟩ 0 1 [97]).1 = 0 by decide +kernel, show (NSt.send ⟨3, 2, t0, fun _ => []⟩ 0 1 [97]).2 = A1 from rfl] at hc
  clear N
  unfold ptrV at *
  go_wp2_with fail
  refine hc.out.mono ?_
  rintro e w2 ⟨rfl, N⟩
  clear hc
  have hc := Lib.hid (send_c (N.allocO (.cells (bv [98]).toArray 5 (1, 2))) (by constructor <;> decide +kernel) okI_0 okI_1 (some ⟨w2.heap.size, 0, none⟩) 1 [98] (fun V h => ⟨rdB_obj h, fun h => by cases h⟩))
  rw [show (A1.send 0 1 [98]).1 = 0 by decide +kernel, show (A1.send 0 1 [98]).2 = A2 from rfl] at hc
  clear N
  unfold ptrV at *
  go_wp2_with fail
  refine hc.out.mono ?_
  rintro e w3 ⟨rfl, N⟩
  clear hc
  have hc := Lib.hid (send_c (N.allocO (.cells (bv [99]).toArray 5 (1, 2))) (by constructor <;> decide +kernel) okI_0 okI_1 (some ⟨w3.heap.size, 0, none⟩) 1 [99] (fun V h => ⟨rdB_obj h, fun h => by cases h⟩))
  rw [show (A2.send 0 1 [99]).1 = 0 by decide +kernel, show (A2.send 0 1 [99]).2 = A3 from rfl] at hc
  clear N
  unfold ptrV at *
  go_wp2_with fail
  refine hc.out.mono ?_
  rintro e w4 ⟨rfl, N⟩
  clear hc
  have hc := Lib.hid (flip_yes N (by constructor <;> decide +kernel) okI_0 okI_1 (j := 1) (bit := 0) (by decide +kernel) (by decide +kernel))
  rw [show A3.flip 0 1 1 0 = A4 from rfl] at hc
  clear N
  unfold ptrV at *
  go_wp2_with fail
  refine hc.out.mono ?_
  rintro e w5 ⟨rfl, N⟩
  clear hc
  have hc := Lib.hid (deliver_yes N (by constructor <;> decide +kernel) okI_0 okI_1 (j := 1) (by decide +kernel))
  clear N
  unfold ptrV at *
  go_wp2_with fail
  refine hc.out.mono ?_
  rintro e w6 ⟨v, rfl, N⟩
  clear hc
  have N : NAt p A5 (grP ⟨v, A4.the 0 1 1⟩ :: _) w6 := N
  have hstr := gr_str N.tail (.here _ _)
  have hl := Lib.hid (len_c N 0 1)
  rw [show ((A5.F (0, 1)).length : Nat) = 1 by decide +kernel] at hl
  have heq : ((strOfNums (A4.the 0 1 1)).toList == [99]) = true := by
    rw [ByteArray.toList_eq]; decide +kernel
  dsimp only at hstr
  generalize strOfNums (A4.the 0 1 1) = str at *
  obtain ⟨va, vn, vc⟩ := v
  unfold slV at *
  unfold ptrV at *
  dsimp only at hstr
  clear N
  go_wp2_with fail
  refine hl.out.mono ?_
  rintro e w7 ⟨rfl, N⟩
  clear hl
  have hfin := Lib.hid (N.tail.re (.drop (.drop (.drop (.drop (.same _))))))
  clear N
  go_wp2_with fail
  go_ret
  exact ⟨rfl, hfin.out⟩
end Go.Proofs.Ytnkahibddhchlaa
