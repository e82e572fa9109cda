/- The law's alive. -/
import Derived.Test.YtcjmkpphohkofaaRings
namespace Go.Proofs.Ytcjmkpphohkofaa
open Go.RowKit
set_option linter.unusedVariables false

def S1 : Ck := ⟨2, 5, [⟨7, 2, 2, 0⟩]⟩
theorem rdU_blk {w : World} {L L' : List Pc} {b : Nat} {l : List Int} {t : TypeId} (H : SL w L) (hp : Pull L (.blk b (uv l) t) L') : RdU w (some ⟨b, 0, none⟩) l := fun i hi => ⟨b, 0, rfl, by
  rw [Nat.zero_add]
  refine H.cell hp ?_
  simp [uv, hi]⟩

set_option maxRecDepth 100000 in
set_option maxHeartbeats 8000000 in
theorem alive_c {w : World} {L : List Pc} (H : SL w L) :
    Calls Try.prog 8 #[] w fun e w' => e = .returned (.bool true) ∧ SL w' L := by
  have hnew := Lib.hid (new_c 2 5 (by omega) (by omega) H)
  clear H
  go_enter Try.func8, Try.ntmps8
  go_wp2_with fail
  refine hnew.out.mono ?_
  rintro e w1 ⟨p, rfl, H1⟩
  have hset := Lib.hid (set_yes H1 (by omega) (k := 7) ⟨by decide, by decide⟩ rfl (by decide))
  rw [show ({ (⟨2, 5, []⟩ : Ck) with l := insK (⟨2, 5, []⟩ : Ck).l 7 (⟨2, 5, []⟩ : Ck).a } : Ck) = S1 from rfl] at hset
  clear hnew H1
  unfold ptrV at *
  go_wp2_with fail
  refine hset.out.mono ?_
  rintro e w2 ⟨rfl, H2⟩
  have hl := Lib.hid (left_c H2 7)
  rw [show (theK S1.l 7).left = 2 from rfl] at hl
  clear hset H2
  unfold ptrV at *
  go_wp2_with fail
  refine hl.out.mono ?_
  rintro e w3 ⟨rfl, H3⟩
  have hr := Lib.hid (rings_c H3 16 (by omega) (by omega))
  rw [show rtK S1 16 = [2, 6, 11, 16] from by decide +kernel] at hr
  clear hl H3
  unfold ptrV at *
  go_wp2_with fail
  refine hr.out.mono ?_
  rintro e w4 ⟨a, c, rfl, H4⟩
  obtain ⟨a', c', e1, -, hcc, hrd⟩ := own_u64 H4.tail
  simp only [Value.slice.injEq] at e1
  obtain ⟨rfl, -, rfl⟩ := e1
  have hH := Lib.hid (H4.alloc (uv [2, 6, 11, 16]) 30)
  have hnum := Lib.hid (numbers_c [2, 6, 11, 16] (by decide) a (some ⟨w4.heap.size, 0, none⟩) c 4 (w4.alloc (.cells (uv [2, 6, 11, 16]).toArray 30)) (hrd.no ((Kp.refl no w4).alloc _)) (rdU_blk hH.out.tail (.here _ _)) hcc (by decide))
  have huv : uv [2, 6, 11, 16] = [.int .u64 2, .int .u64 6, .int .u64 11, .int .u64 16] := rfl
  have hrg : Hid ((theK (tickN 16 S1).l 7).rung = 4) := Lib.hid (by decide +kernel)
  rw [huv] at hH hnum
  have e4 : ([2, 6, 11, 16] : List Int).length = 4 := rfl
  rw [e4] at hnum hH ⊢
  clear hr H4 hrd huv e4 hcc
  unfold ptrV at *
  go_wp2_with fail
  refine hnum.out.mono ?_
  rintro e w5 ⟨rfl, hk⟩
  have hru := Lib.hid (rung_c (CAt.map hH.out fun N h => h.quiet hk) 7)
  rw [hrg.out] at hru
  clear hnum hk hH hrg
  unfold ptrV at *
  go_wp2_with fail
  refine hru.out.mono ?_
  rintro e w6 ⟨rfl, H6⟩
  have hfin := Lib.hid (H6.tail.tail.tail)
  clear hru H6
  go_wp2_with fail
  go_ret
  exact ⟨rfl, hfin.out⟩
end Go.Proofs.Ytcjmkpphohkofaa
