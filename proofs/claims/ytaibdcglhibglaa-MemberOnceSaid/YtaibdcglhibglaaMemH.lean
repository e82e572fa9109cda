/- The walks of meet, Heard, Greatest, Lets, Owes. -/
import Derived.Test.YtaibdcglhibglaaMemS
namespace Go.Proofs.Ytaibdcglhibglaa
open Go.RowKit
set_option linter.unusedVariables false

/-- The greater of two epochs. -/
def maxE (M Cy gN gBy : Int) : Int × Int := if 0 < cmpE M Cy gN gBy then (M, Cy) else (gN, gBy)

section
variable {p : Nat} {self nodes disp N By gN gBy count : Int} {s j : Value} {owes : Bool} {L : List Pc} {w : World}
set_option maxHeartbeats 4000000 in
theorem meet_c (H : SL w (memB p self nodes disp N By s gN gBy owes j count :: L)) (M Cy : Int) :
    Calls Try.prog 34 #[.pointer (some ⟨p, 0, none⟩), .agg #[.int .u32 M, .int .i64 Cy]] w fun r w' => (∃ v, r = .returned v) ∧
      SL w' (memB p self nodes disp N By s (maxE M Cy gN gBy).1 (maxE M Cy gN gBy).2 owes j count :: L) := by
  have hc := Lib.hid (fun w => cmp_c M Cy gN gBy w)
  have H1 := H.alloc [.int .u32 M, .int .i64 Cy] 31
  have hH := Lib.hid H1
  have hm : Hid (maxE M Cy gN gBy = if 0 < cmpE M Cy gN gBy then (M, Cy) else (gN, gBy)) := Lib.hid rfl
  clear H H1
  go_enter Try.func34, Try.ntmps34
  go_wp2_with fail
  generalize w.alloc (.cells #[.int .u32 M, .int .i64 Cy] 31) = w2 at *
  generalize w.heap.size = b1 at *
  have c0 := hH.out.cell (o := 0) (.here _ _) rfl
  have c1 := hH.out.cell (o := 1) (.here _ _) rfl
  have g6 := hH.out.cell (o := 6) (.there (.here _ _)) rfl
  have g7 := hH.out.cell (o := 7) (.there (.here _ _)) rfl
  go_still_tail 5, (by kernel_rfl)
  change wpList _ _ _ _ _ w2.drew
  have H3 := Lib.hid hH.out.drew
  generalize w2.drew = w3 at *
  clear hH c0 c1 g6 g7
  obtain ⟨k, hk⟩ : ∃ k, cmpE M Cy gN gBy = k := ⟨_, rfl⟩
  rw [hk] at hc hm
  clear hk
  go_wp2_with fail
  refine (hc.out _).mono ?_
  rintro r w4 ⟨rfl, k4⟩
  have H4 := Lib.hid (H3.out.quiet k4)
  clear hc k4 H3
  have c0 := H4.out.cell (o := 0) (.here _ _) rfl
  have c1 := H4.out.cell (o := 1) (.here _ _) rfl
  have g6 := H4.out.cell (o := 6) (.there (.here _ _)) rfl
  have g7 := H4.out.cell (o := 7) (.there (.here _ _)) rfl
  have fz := fun o => H4.out.free (.there (.here _ _)) o
  by_cases h : 0 < k
  · have H5 := Lib.hid (((H4.out.re (L' := memB p self nodes disp N By s gN gBy owes j count :: L) (.drop (.same _))).setCell 6 (.int .u32 M)).setCell 7 (.int .i64 Cy))
    rw [if_pos h] at hm
    clear H4
    go_wp2_with fail
    refine bodyPost_end (results_none rfl _ _ _) rfl ⟨⟨_, rfl⟩, ?_⟩
    rw [hm.out]
    exact H5.out
  · have H5 := Lib.hid (H4.out.re (L' := memB p self nodes disp N By s gN gBy owes j count :: L) (.drop (.same _)))
    rw [if_neg h] at hm
    have h' : k ≤ 0 := by omega
    clear H4 h
    go_wp2_with fail
    refine bodyPost_end (results_none rfl _ _ _) rfl ⟨⟨_, rfl⟩, ?_⟩
    rw [hm.out]
    exact H5.out

/-- What Heard answers, and the greatest epoch then. -/
def heardM (nodes M Cy gN gBy : Int) : Int × Int × Int := if Cy < 0 ∨ nodes ≤ Cy then (240, gN, gBy) else (0, maxE M Cy gN gBy)

set_option maxHeartbeats 4000000 in
theorem heard_c (H : SL w (memB p self nodes disp N By s gN gBy owes j count :: L)) (hn : 1 ≤ nodes) (M Cy : Int) :
    Calls Try.prog 11 #[.pointer (some ⟨p, 0, none⟩), .agg #[.int .u32 M, .int .i64 Cy]] w fun r w' => r = .returned (.int .i64 (heardM nodes M Cy gN gBy).1) ∧
      SL w' (memB p self nodes disp N By s (heardM nodes M Cy gN gBy).2.1 (heardM nodes M Cy gN gBy).2.2 owes j count :: L) := by
  have H1 := H.alloc [.int .u32 M, .int .i64 Cy] 31
  have hH := Lib.hid H1
  have hno := Lib.hid (none_c (H1.re (L' := memB p self nodes disp N By s gN gBy owes j count :: .blk w.heap.size [.int .u32 M, .int .i64 Cy] 31 :: L) (.step (.there (.here _ _)) (.same _))))
  have hnz : (nodes == 0) = false := by simp; omega
  rw [hnz] at hno
  have hm : Hid (heardM nodes M Cy gN gBy = if Cy < 0 ∨ nodes ≤ Cy then (240, gN, gBy) else (0, maxE M Cy gN gBy)) := Lib.hid rfl
  clear H H1
  go_enter Try.func11, Try.ntmps11
  go_wp2_with fail
  refine hno.out.mono ?_
  rintro r w' ⟨rfl, rfl⟩
  clear hno
  generalize w.alloc (.cells #[.int .u32 M, .int .i64 Cy] 31) = w2 at *
  generalize w.heap.size = b1 at *
  have c0 := hH.out.cell (o := 0) (.here _ _) rfl
  have c1 := hH.out.cell (o := 1) (.here _ _) rfl
  have g1 := hH.out.cell (o := 1) (.there (.here _ _)) rfl
  go_wp2_with fail
  by_cases h : Cy < 0 ∨ nodes ≤ Cy
  · rw [if_pos h] at hm
    have hfin := Lib.hid h
    rcases h with h | h
    · go_quiet (fail)
      have H3 := Lib.hid (hH.out.drewN nq)
      go_wp2_with fail
      go_ret
      exact ⟨by rw [hm.out]; rfl, by rw [hm.out]; exact H3.out.re (.drop (.same _))⟩
    · by_cases h0 : Cy < 0
      · go_quiet (fail)
        have H3 := Lib.hid (hH.out.drewN nq)
        go_wp2_with fail
        go_ret
        exact ⟨by rw [hm.out]; rfl, by rw [hm.out]; exact H3.out.re (.drop (.same _))⟩
      · have h0' : 0 ≤ Cy := by omega
        clear h0
        go_quiet (fail)
        have H3 := Lib.hid (hH.out.drewN nq)
        go_wp2_with fail
        go_ret
        exact ⟨by rw [hm.out]; rfl, by rw [hm.out]; exact H3.out.re (.drop (.same _))⟩
  · rw [if_neg h] at hm
    have h1 : 0 ≤ Cy := by omega
    have h2 : Cy < nodes := by omega
    clear h
    go_quiet (fail)
    have H3 := Lib.hid (hH.out.drewN nq)
    generalize w2.drewN nq = w3 at *
    clear hH c0 c1 g1
    have c0 := H3.out.cell (o := 0) (.here _ _) rfl
    have c1 := H3.out.cell (o := 1) (.here _ _) rfl
    have hme := Lib.hid (meet_c (H3.out.re (L' := memB p self nodes disp N By s gN gBy owes j count :: .blk b1 [.int .u32 M, .int .i64 Cy] 31 :: L) (.step (.there (.here _ _)) (.same _))) M Cy)
    clear H3
    go_wp2_with fail
    refine hme.out.mono ?_
    rintro r w4 ⟨⟨v, rfl⟩, H4⟩
    have hH4 := Lib.hid H4
    clear hme H4
    go_wp2_with fail
    go_ret
    exact ⟨by rw [hm.out]; rfl, by rw [hm.out]; exact hH4.out.re (.step (.here _ _) (.drop (.same _)))⟩
end
end Go.Proofs.Ytaibdcglhibglaa
