/- The walk of GramSpoilt, over what came in. -/
import Derived.Test.YtilpkfgdlehmpaaDoorSpoiltW
import Derived.Test.YtilpkfgdlehmpaaDoorOpenL
namespace Go.Proofs.YtilpkfgdlehmpaaDoor
open Go.RowKit Go.Shelf
set_option linter.unusedVariables false

theorem great_t (g : Gm) (a : Option Addr) (n c : Nat) {L : List Pc} {w : World} (H : SL w L) (hn : ¬ n ≤ 1000) : Calls Tryd.prog 8 #[gmV g (.slice a n c)] w fun e w' => e = .returned (.bool true) ∧ SL w' L :=
  (great_c g _ a n c w rfl).mono fun e w' h => ⟨by rw [h.1, show decide ((1000 : Int) < n) = true by simp; omega], H.quiet h.2⟩
set_option maxRecDepth 100000 in
set_option maxHeartbeats 4000000 in
theorem spoilt_g (g : Gm) (a : Option Addr) (n c : Nat) (x y : Value) (w : World) (hn : ¬ n ≤ 1000) (tab : TabU w) :
    Calls Tryd.prog 5 #[gmV g (.slice a n c), x, y] w fun e w' => e = .returned (.bool true) ∧ Kp no w w' := by
  have H0 := (SL.start w).alloc (gmC g (.slice a n c)) 25
  have htab : Hid (∀ V M M', SL V M → Pull M (.old w no) M' → TabU V) := Lib.hid fun V M M' h hp => tabU_no tab (h.kp hp)
  have hgt := Lib.hid (fun L w (h : SL w L) => great_t g a n c h hn)
  have hgv : gmV g (.slice a n c) = .agg #[.int .i64 g.fr, .int .i64 g.dst, .int .i64 g.kind, .int .u64 g.n, .int .i64 g.by', .int .u64 g.seq, .int .u64 g.ack, .int .u64 g.mask, .slice a n c] := rfl
  rw [hgv]
  clear hgv tab hn
  obtain ⟨q0, q1, q2, q3, q4, q5, q6, q7, q8⟩ := gm_cells H0 (.here _ _)
  have hH := Lib.hid H0
  clear H0
  unfold gmC at hH
  go_enter Tryd.func5, Tryd.ntmps5
  go_wp2_with fail
  generalize w.heap.size = X at *
  refine (alive_c hH.out (fun V hV => htab.out _ _ _ hV (.there (.here _ _)))).mono ?_
  rintro e w1 ⟨rfl, H⟩
  replace hH := Lib.hid H
  clear H q0 q1 q2 q3 q4 q5 q6 q7 q8
  obtain ⟨q0, q1, q2, q3, q4, q5, q6, q7, q8⟩ := gm_cells (g := g) hH.out (.here _ _)
  go_wp2_with fail
  refine (hgt.out _ _ hH.out).mono ?_
  rintro e w2 ⟨rfl, H⟩
  replace hH := Lib.hid H
  clear H q0 q1 q2 q3 q4 q5 q6 q7 q8
  go_wp2_with fail
  go_ret
  exact ⟨rfl, hH.out.kp (.there (.here _ _))⟩

theorem walkSpoilt (g : Gm) (a : Option Addr) (ca : Nat) (x y : Int) (w : World) (w0 : GmOk g ∧ RdB w a g.data ∧ (a = none → ca = 0)) (w1 : (Lit.int .u16 x).wf = true) (w2 : (Lit.int .u32 y).wf = true) (tab : TabU w) :
    Calls Tryd.prog 5 #[gmV g (.slice a g.data.length ca), .int .u16 x, .int .u32 y] w fun e w' => e = .returned (.bool true) ∧ Below w.heap.size w w' := by
  by_cases hn : g.data.length ≤ 1000
  · have hx : 0 ≤ x ∧ x ≤ 65535 := by
      simp [Lit.wf, IntKind.min, IntKind.max, IntKind.signed, IntKind.bits] at w1
      exact ⟨w1.1, by have := w1.2; omega⟩
    have hy : 0 ≤ y ∧ y ≤ 4294967295 := by
      simp [Lit.wf, IntKind.min, IntKind.max, IntKind.signed, IntKind.bits] at w2
      exact ⟨w2.1, by have := w2.2; omega⟩
    obtain ⟨A, rfl⟩ := Int.eq_ofNat_of_zero_le hx.1
    obtain ⟨mk, rfl⟩ : ∃ mk : BitVec 32, y = Crc.U mk := ⟨BitVec.ofInt 32 y, (Crc.U_of 32 y hy.1 (by omega)).symm⟩
    exact (spoilt_c g w0.1 a _ ca A mk w rfl hn (by omega) w0.2.2 w0.2.1 tab).mono fun e w' hh => ⟨hh.1, hh.2.self_below⟩
  · exact (spoilt_g g a _ ca _ _ w hn tab).mono fun e w' hh => ⟨hh.1, hh.2.self_below⟩
end Go.Proofs.YtilpkfgdlehmpaaDoor
