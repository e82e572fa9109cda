/- The walk of GramApart, over what came in. -/
import Derived.Test.YtilpkfgdlehmpaaDoorApartW
import Derived.Test.YtilpkfgdlehmpaaDoorOpenL
namespace Go.Proofs.YtilpkfgdlehmpaaDoor
open Go.RowKit Go.Shelf
set_option linter.unusedVariables false

theorem great_t (g : Gm) (a : Option Addr) (n c : Nat) {L : List Pc} {w : World} (H : SL w L) (hn : ¬ n ≤ 1000) : Calls Tryd.prog 8 #[gmV g (.slice a n c)] w fun e w' => e = .returned (.bool true) ∧ SL w' L :=
  (great_c g _ a n c w rfl).mono fun e w' h => ⟨by rw [h.1, show decide ((1000 : Int) < n) = true by simp; omega], H.quiet h.2⟩
set_option maxRecDepth 100000 in
set_option maxHeartbeats 4000000 in
theorem apart_g (g h : Gm) (a : Option Addr) (n c : Nat) (b : Option Addr) (m cb : Nat) (w : World) (hn : ¬ n ≤ 1000) (tab : TabU w) :
    Calls Tryd.prog 4 #[gmV g (.slice a n c), gmV h (.slice b m cb)] w fun e w' => e = .returned (.bool true) ∧ Kp no w w' := by
  have H0 := ((SL.start w).alloc (gmC g (.slice a n c)) 25).alloc (gmC h (.slice b m cb)) 25
  rw [World.size_alloc] at H0
  have htab : Hid (∀ V M M', SL V M → Pull M (.old w no) M' → TabU V) := Lib.hid fun V M M' h hp => tabU_no tab (h.kp hp)
  have hgt := Lib.hid (fun L w (h : SL w L) => great_t g a n c h hn)
  have hgv : gmV g (.slice a n c) = .agg #[.int .i64 g.fr, .int .i64 g.dst, .int .i64 g.kind, .int .u64 g.n, .int .i64 g.by', .int .u64 g.seq, .int .u64 g.ack, .int .u64 g.mask, .slice a n c] := rfl
  rw [hgv]
  clear hgv tab hn
  obtain ⟨q0, q1, q2, q3, q4, q5, q6, q7, q8⟩ := gm_cells (g := g) H0 (.there (.here _ _))
  have hH := Lib.hid H0
  clear H0
  unfold gmC at hH
  unfold gmV
  go_enter Tryd.func4, Tryd.ntmps4
  go_wp2_with fail
  generalize w.heap.size + 1 = Y at *
  generalize w.heap.size = X at *
  refine (alive_c hH.out (fun V hV => htab.out _ _ _ hV (.there (.there (.here _ _))))).mono ?_
  rintro e w1 ⟨rfl, H⟩
  replace hH := Lib.hid H
  clear H q0 q1 q2 q3 q4 q5 q6 q7 q8
  obtain ⟨q0, q1, q2, q3, q4, q5, q6, q7, q8⟩ := gm_cells (g := g) hH.out (.there (.here _ _))
  go_wp2_with fail
  refine (hgt.out _ _ hH.out).mono ?_
  rintro e w2 ⟨rfl, H⟩
  replace hH := Lib.hid H
  clear H q0 q1 q2 q3 q4 q5 q6 q7 q8
  go_wp2_with fail
  go_ret
  exact ⟨rfl, hH.out.kp (.there (.there (.here _ _)))⟩
set_option maxRecDepth 100000 in
set_option maxHeartbeats 4000000 in
theorem apart_h (g h : Gm) (a : Option Addr) (n c : Nat) (b : Option Addr) (m cb : Nat) (w : World) (hn : n ≤ 1000) (hm : ¬ m ≤ 1000) (tab : TabU w) :
    Calls Tryd.prog 4 #[gmV g (.slice a n c), gmV h (.slice b m cb)] w fun e w' => e = .returned (.bool true) ∧ Kp no w w' := by
  have H0 := ((SL.start w).alloc (gmC g (.slice a n c)) 25).alloc (gmC h (.slice b m cb)) 25
  rw [World.size_alloc] at H0
  have htab : Hid (∀ V M M', SL V M → Pull M (.old w no) M' → TabU V) := Lib.hid fun V M M' h hp => tabU_no tab (h.kp hp)
  have hgt := Lib.hid (fun L w (h : SL w L) => great_s g a n c h hn)
  have hht := Lib.hid (fun L w (H : SL w L) => great_t h b m cb H hm)
  have hgv : gmV g (.slice a n c) = .agg #[.int .i64 g.fr, .int .i64 g.dst, .int .i64 g.kind, .int .u64 g.n, .int .i64 g.by', .int .u64 g.seq, .int .u64 g.ack, .int .u64 g.mask, .slice a n c] := rfl
  rw [hgv]
  clear hgv tab hn hm
  obtain ⟨q0, q1, q2, q3, q4, q5, q6, q7, q8⟩ := gm_cells (g := g) H0 (.there (.here _ _))
  obtain ⟨y0, y1, y2, y3, y4, y5, y6, y7, y8⟩ := gm_cells (g := h) H0 (.here _ _)
  have hH := Lib.hid H0
  clear H0
  unfold gmC at hH
  unfold gmV
  go_enter Tryd.func4, Tryd.ntmps4
  go_wp2_with fail
  generalize w.heap.size + 1 = Y at *
  generalize w.heap.size = X at *
  refine (alive_c hH.out (fun V hV => htab.out _ _ _ hV (.there (.there (.here _ _))))).mono ?_
  rintro e w1 ⟨rfl, H⟩
  replace hH := Lib.hid H
  clear H q0 q1 q2 q3 q4 q5 q6 q7 q8 y0 y1 y2 y3 y4 y5 y6 y7 y8
  obtain ⟨q0, q1, q2, q3, q4, q5, q6, q7, q8⟩ := gm_cells (g := g) hH.out (.there (.here _ _))
  go_wp2_with fail
  refine (hgt.out _ _ hH.out).mono ?_
  rintro e w2 ⟨rfl, H⟩
  replace hH := Lib.hid H
  clear H q0 q1 q2 q3 q4 q5 q6 q7 q8
  obtain ⟨y0, y1, y2, y3, y4, y5, y6, y7, y8⟩ := gm_cells (g := h) hH.out (.here _ _)
  go_wp2_with fail
  refine (hht.out _ _ hH.out).mono ?_
  rintro e w3 ⟨rfl, H⟩
  replace hH := Lib.hid H
  clear H y0 y1 y2 y3 y4 y5 y6 y7 y8
  go_wp2_with fail
  go_ret
  exact ⟨rfl, hH.out.kp (.there (.there (.here _ _)))⟩

theorem walkApart (g : Gm) (a : Option Addr) (ca : Nat) (h : Gm) (b : Option Addr) (cb : Nat) (w : World) (w0 : GmOk g ∧ RdB w a g.data ∧ (a = none → ca = 0)) (w1 : GmOk h ∧ RdB w b h.data ∧ (b = none → cb = 0)) (tab : TabU w) :
    Calls Tryd.prog 4 #[gmV g (.slice a g.data.length ca), gmV h (.slice b h.data.length cb)] w fun e w' => e = .returned (.bool true) ∧ Below w.heap.size w w' := by
  by_cases hn : g.data.length ≤ 1000
  · by_cases hm : h.data.length ≤ 1000
    · exact (apart_c g h w0.1 w1.1 a _ ca b _ cb w rfl hn rfl hm w0.2.2 w1.2.2 w0.2.1 w1.2.1 tab).mono fun e w' hh => ⟨hh.1, hh.2.self_below⟩
    · exact (apart_h g h a _ ca b _ cb w hn hm tab).mono fun e w' hh => ⟨hh.1, hh.2.self_below⟩
  · exact (apart_g g h a _ ca b _ cb w hn tab).mono fun e w' hh => ⟨hh.1, hh.2.self_below⟩
end Go.Proofs.YtilpkfgdlehmpaaDoor
