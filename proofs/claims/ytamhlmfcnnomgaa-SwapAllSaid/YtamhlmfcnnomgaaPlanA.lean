/- The reference's Plan, whole; its Held. -/
import Derived.Test.YtamhlmfcnnomgaaPlanD
import Derived.Test.YtamhlmfcnnomgaaPlanH
import Derived.Test.YtamhlmfcnnomgaaAsks
namespace Go.Proofs.Ytamhlmfcnnomgaa
open Go.RowKit
set_option linter.unusedVariables false

/-- What Plan answers. -/
def PlanPost (mode p s : Nat) (L : List Pc) (e : Ending) (w' : World) : Prop := ∃ B C R S, e = .returned (.tuple #[.slice (some ⟨B, 0, none⟩) (roundsOf mode p + 1) (roundsOf mode p + 1), .slice (some ⟨C, 0, none⟩) (roundsOf mode p) (roundsOf mode p)]) ∧
  R.map (·.2) = wholeX (fun k => heldRow mode p s k p) (roundsOf mode p + 1) ∧ S.map (·.2) = wholeX (movesOf mode p s) (roundsOf mode p) ∧ SL w' (gH B R :: gM C S :: L)
theorem plan_c (mode p s : Nat) (hm : mode = 1 ∨ mode = 2) (h1 : 1 ≤ p) (h2 : p ≤ 64) (h3 : s ≤ 4096) {L : List Pc} {w : World} (H : SL w L) :
    Calls Try.prog 17 #[.int .i64 mode, .int .i64 p, .int .i64 s] w (PlanPost mode p s L) := by
  rcases hm with rfl | rfl
  · exact plan_halves p s h1 h2 h3 _ rfl H
  · refine (plan_direct p s h1 h2 h3 H).mono ?_
    rintro e w' ⟨B, C, R, S, h1, h2, h3, h4⟩
    exact ⟨B, C, R, S, h1, h2, h3, h4⟩
theorem heldE_ok {mode p s place round : Int} (h : heldE mode p s place round = 0) : okP mode p s ∧ 0 ≤ place ∧ place < p ∧ 0 ≤ round ∧ round ≤ roundsI mode p := by
  unfold heldE mayE at h
  by_cases a : okP mode p s
  · rw [if_pos a] at h
    by_cases b : place < 0 ∨ p ≤ place ∨ round < 0 ∨ roundsI mode p < round
    · rw [if_pos b] at h; cases h
    · exact ⟨a, by omega, by omega, by omega, by omega⟩
  · rw [if_neg a] at h; cases h

set_option maxRecDepth 100000 in
set_option maxHeartbeats 8000000 in
theorem rheld_any (mode p s place round : Int) (w : World) :
    Calls Try.prog 20 #[.int .i64 mode, .int .i64 p, .int .i64 s, .int .i64 place, .int .i64 round] w fun e w' =>
    e = .returned (.tuple #[heldV mode p s place round, .int .i64 (heldE mode p s place round)]) ∧ Kp no w w' := by
  have H0 := (SL.start w).alloc [.int .i64 0, .int .i64 0] 29
  have hmy := Lib.hid (fun w => rmay_c mode p s w)
  by_cases hok : okP mode p s
  · rw [decide_eq_true hok] at hmy
    obtain ⟨M, rfl⟩ := Int.eq_ofNat_of_zero_le (show 0 ≤ mode by unfold okP at hok; omega)
    obtain ⟨P, rfl⟩ := Int.eq_ofNat_of_zero_le (show 0 ≤ p by unfold okP at hok; omega)
    obtain ⟨T, rfl⟩ := Int.eq_ofNat_of_zero_le (show 0 ≤ s by unfold okP at hok; omega)
    have hm : M = 1 ∨ M = 2 := by unfold okP at hok; omega
    have h1 : 1 ≤ P := by unfold okP at hok; omega
    have h2 : P ≤ 64 := by unfold okP at hok; omega
    have h3 : T ≤ 4096 := by unfold okP at hok; omega
    have hrr := Lib.hid (fun w => rrounds_c M P w hm h1 h2)
    have hri := roundsI_nat M P h1 h2
    have hpl := Lib.hid (fun L w (h : SL w L) => plan_c M P T hm h1 h2 h3 h)
    have hr7 := rounds_le M P h1 h2
    by_cases hbad : place < 0 ∨ (P : Int) ≤ place ∨ round < 0 ∨ (roundsOf M P : Int) < round
    · have hE : heldE M P T place round = 2 := may_arg hok (by rw [hri]; exact hbad)
      have hV : heldV M P T place round = span (0, 0) := by unfold heldV; rw [hE, if_neg (by decide)]
      rw [hE, hV]
      have hH := Lib.hid H0
      clear H0 hE hV hok hpl hri hm
      generalize roundsOf M P = Q at *
      have hcs : place < 0 ∨ (¬ place < 0 ∧ (P : Int) ≤ place) ∨ (¬ place < 0 ∧ ¬ (P : Int) ≤ place ∧ round < 0) ∨ (¬ place < 0 ∧ ¬ (P : Int) ≤ place ∧ ¬ round < 0 ∧ (Q : Int) < round) := by omega
      clear hbad
      rcases hcs with b1 | ⟨b1, b2⟩ | ⟨b1, b2, b3⟩ | ⟨b1, b2, b3, b4⟩
      all_goals
        go_enter Try.func20, Try.ntmps20
        go_wp2_with fail
        refine (hmy.out _).mono ?_
        rintro e w' ⟨rfl, rfl⟩
        go_wp2_with fail
        refine (hrr.out _).mono ?_
        rintro e w' ⟨rfl, rfl⟩
        go_wp2_with fail
        have k0 := hH.out.cell (o := 0) (.here _ _) rfl
        have k1 := hH.out.cell (o := 1) (.here _ _) rfl
        dsimp only [List.toArray] at k0 k1
        exact bodyPost_ret (v := .tuple #[span (0, 0), .int .i64 2]) (by simp [span, results, Try.results20, go_sem, k0, k1]) rfl ⟨rfl, hH.out.kp (.there (.here _ _))⟩
    · obtain ⟨pl, rfl⟩ := Int.eq_ofNat_of_zero_le (show 0 ≤ place by omega)
      obtain ⟨rd, rfl⟩ := Int.eq_ofNat_of_zero_le (show 0 ≤ round by omega)
      have hE : heldE M P T pl rd = 0 := may_ok hok (by rw [hri]; exact hbad)
      have hV : heldV M P T pl rd = span (heldOf M P T pl rd) := by unfold heldV; rw [hE, if_pos rfl]; simp
      rw [hE, hV]
      obtain ⟨xa, xb, hxab⟩ : ∃ xa xb, heldOf M P T pl rd = (xa, xb) := ⟨_, _, rfl⟩
      rw [hxab]
      have hxab' := Lib.hid hxab
      clear hxab
      have hplP : pl < P := by omega
      have hrdQ : rd < roundsOf M P + 1 := by omega
      have hH := Lib.hid H0
      clear H0 hE hV hok hri hm hbad
      unfold PlanPost at hpl
      obtain ⟨Q, hQ⟩ : ∃ Q, roundsOf M P = Q := ⟨_, rfl⟩
      rw [hQ] at hrr hpl hr7 hrdQ
      clear hQ
      have c1 : ¬ (P : Int) ≤ (pl : Int) := by omega
      have c2 : ¬ (Q : Int) < (rd : Int) := by omega
      have c3 : (rd : Int) < (Q : Int) + 1 := by omega
      go_enter Try.func20, Try.ntmps20
      go_wp2_with fail
      refine (hmy.out _).mono ?_
      rintro e w' ⟨rfl, rfl⟩
      go_wp2_with fail
      refine (hrr.out _).mono ?_
      rintro e w' ⟨rfl, rfl⟩
      go_wp2_with fail
      generalize w.heap.size = X at *
      refine (hpl.out _ _ hH.out).mono ?_
      rintro e w2 ⟨B, C, R, S, rfl, hR, hS, H⟩
      clear hH hpl hrr hmy hS
      have hRl : rd < R.length := by have := congrArg List.length hR; rw [List.length_map] at this; rw [this]; simpa [wholeX] using hrdQ
      have hrow : (R[rd]'hRl).2 = heldRow M P T rd P := (row_is hR hRl (by simpa [wholeX] using hrdQ)).trans (wholeX_at _ hrdQ)
      obtain ⟨hb, hcp, hv0, hhc⟩ := row_val (grid_row H (.here _ _) hRl) (m := P) (by rw [hrow, heldRow_len]) (by omega)
      obtain ⟨x1, x3, x4⟩ := row_facts1 (grid_cell H (.here _ _) hRl) (grid_row H (.here _ _) hRl) hv0 (j := pl) (by rw [hrow, heldRow_len]; exact hplP)
      rw [List.getElem_of_eq hrow, heldRow_at _ _ _ _ hplP] at x3 x4
      rw [hxab'.out] at x3 x4
      dsimp only at x3 x4
      have y0 := H.cell (b := X) (o := 0) (.there (.there (.here _ _))) rfl
      have y1 := H.cell (b := X) (o := 1) (.there (.there (.here _ _))) rfl
      have f0 := H.free (b := X) (.there (.there (.here _ _))) 0
      have f1 := H.free (b := X) (.there (.there (.here _ _))) 1
      have H2 := ((H.pull (.there (.there (.here _ _)))).setCell 0 (.int .i64 xa)).setCell 1 (.int .i64 xb)
      have hH2 := Lib.hid H2
      clear H hrow hv0 hR H2
      go_wp2_with fail
      have k0 := hH2.out.cell (o := 0) (.here _ _) rfl
      have k1 := hH2.out.cell (o := 1) (.here _ _) rfl
      exact bodyPost_ret (v := .tuple #[span (xa, xb), .int .i64 0]) (by simp [span, results, Try.results20, go_sem, k0, k1]) rfl ⟨rfl, hH2.out.kp (.there (.there (.there (.here _ _))))⟩
  · rw [decide_eq_false hok] at hmy
    have hE : heldE mode p s place round = 260 := may_ck hok
    have hV : heldV mode p s place round = span (0, 0) := by unfold heldV; rw [hE, if_neg (by decide)]
    rw [hE, hV]
    have hH := Lib.hid H0
    clear H0 hE hV hok
    go_enter Try.func20, Try.ntmps20
    go_wp2_with fail
    refine (hmy.out _).mono ?_
    rintro e w' ⟨rfl, rfl⟩
    go_wp2_with fail
    have k0 := hH.out.cell (o := 0) (.here _ _) rfl
    have k1 := hH.out.cell (o := 1) (.here _ _) rfl
    dsimp only [List.toArray] at k0 k1
    exact bodyPost_ret (v := .tuple #[span (0, 0), .int .i64 260]) (by simp [span, results, Try.results20, go_sem, k0, k1]) rfl ⟨rfl, hH.out.kp (.there (.here _ _))⟩
end Go.Proofs.Ytamhlmfcnnomgaa
