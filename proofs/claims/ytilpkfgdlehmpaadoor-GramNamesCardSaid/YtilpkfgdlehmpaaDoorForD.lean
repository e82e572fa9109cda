/- gram.For. -/
import Derived.Test.YtilpkfgdlehmpaaDoorDecD
import Derived.Deep.CutBlock
import Derived.Deep.CutRange
namespace Go.Proofs.YtilpkfgdlehmpaaDoor
open Go.RowKit Go.Shelf
set_option linter.unusedVariables false

theorem for_results {W : World} {Q : Nat} {g : Gm} {a : Option Addr} {m c : Nat} {E : Int} {L : List Pc} (H : SL W (.blk Q (gmC g (.slice a m c)) 25 :: L)) {tmps : Array Value}
    (h2 : tmps.getD 6 undef = .pointer (some ⟨Q, 0, none⟩)) (h3 : tmps.getD 7 undef = .int .i64 E) :
    (results Tryd.f22 tmps).run Tryd.prog W = .ok (.tuple #[gmV g (.slice a m c), .int .i64 E]) W := by
  unfold gmC at H
  (have C := H.cells; dsimp only [cellsOf, Pc.cells, cellsFrom, Nat.zero_add, Nat.reduceAdd] at C; (try simp only [true_and] at C); (try simp only [and_true] at C))
  have h2' : tmps[6]?.getD undef = .pointer (some ⟨Q, 0, none⟩) := by simpa using h2
  have h3' : tmps[7]?.getD undef = .int .i64 E := by simpa using h3
  simp [results, Tryd.results22, go_sem, C, h2', h3', gmV]
/-- The answer of For. -/
def forR (bs : List Int) (x y : Int) : Gm × Int := if (decR bs).2 = 0 ∧ ¬ ((decR bs).1.fr = x ∧ (decR bs).1.dst = y) then (Gm0, 180) else decR bs
def ForPost (R : Gm × Int) (L : List Pc) (e : Ending) (w' : World) : Prop := ∃ a c, e = .returned (.tuple #[gmV R.1 (.slice a R.1.data.length c), .int .i64 R.2]) ∧ SL w' (.own 5 1 (.slice a R.1.data.length c) R.1.data.length (bv R.1.data) :: L)
theorem forPost_zero {R : Gm × Int} {L : List Pc} {E : Int} (h : R = (Gm0, E)) {w' : World} (H : SL w' L) {e : Ending} (he : e = .returned (.tuple #[.agg Z9.toArray, .int .i64 E])) : ForPost R L e w' := by
  unfold ForPost
  rw [h]
  exact ⟨none, 0, he, H.pure (OwnK.nil _ _ _ _) (fun b hb => by cases hb)⟩

set_option maxRecDepth 100000 in
set_option maxHeartbeats 8000000 in
theorem for_c {a : Option Addr} {n c : Nat} {bs : List Int} {w : World} {L : List Pc} (x y : Int) (H : SL w L) (hl : bs.length = n) (hn : n ≤ 6000) (hc : n ≤ c) (hcm : c ≤ 9223372036854775807) (hb : RdB w a bs) (hy : ∀ x ∈ bs, byteK x) :
    Calls Tryd.prog 22 #[.slice a n c, .int .i64 x, .int .i64 y] w (ForPost (forR bs x y) L) := by
  have H1 := H.alloc Z9 25
  have hd := Lib.hid (dec_c H1 hl hn hc hcm (hb.no ((Kp.refl no w).alloc _)) hy)
  have hcm' := Lib.hid hcm
  clear H H1 hb hy hcm hl
  obtain ⟨R, hR⟩ : ∃ R, decR bs = R := ⟨_, rfl⟩
  have hF : Hid (forR bs x y = if R.2 = 0 ∧ ¬ (R.1.fr = x ∧ R.1.dst = y) then (Gm0, 180) else R) := Lib.hid (by unfold forR; rw [hR])
  unfold DecPost at hd
  rw [hR] at hd
  generalize forR bs x y = FF at *
  clear hR
  obtain ⟨⟨kind, fr, dst, nn, by1, seq, ack, mask, data⟩, E⟩ := R
  dsimp only at hd ⊢
  unfold gmV at hd
  dsimp only at hd
  go_enter Tryd.func22, Tryd.ntmps22
  go_wp2_with fail
  generalize w.alloc (.cells Z9.toArray 25) = w1 at *
  generalize w.heap.size = Q at *
  refine hd.out.mono ?_
  rintro e w2 ⟨ta, tc, rfl, H2⟩
  clear hd
  have H3 := Lib.hid ((H2.alloc [.int .i64 fr, .int .i64 dst, .int .i64 kind, .int .u64 nn, .int .i64 by1, .int .u64 seq, .int .u64 ack, .int .u64 mask, .slice ta data.length tc] 25).re (.step (.there (.there (.here _ _))) (.same _)))
  clear H2
  go_upto_region 2 with (fail)
  generalize w2.alloc (.cells [Value.int .i64 fr, .int .i64 dst, .int .i64 kind, .int .u64 nn, .int .i64 by1, .int .u64 seq, .int .u64 ack, .int .u64 mask, .slice ta data.length tc].toArray 25) = w3 at *
  generalize w2.heap.size = G at *
  have z0 := H3.out.cell (b := Q) (o := 0) (.here _ _) rfl
  have z1 := H3.out.cell (b := Q) (o := 1) (.here _ _) rfl
  have z2 := H3.out.cell (b := Q) (o := 2) (.here _ _) rfl
  have z3 := H3.out.cell (b := Q) (o := 3) (.here _ _) rfl
  have z4 := H3.out.cell (b := Q) (o := 4) (.here _ _) rfl
  have z5 := H3.out.cell (b := Q) (o := 5) (.here _ _) rfl
  have z6 := H3.out.cell (b := Q) (o := 6) (.here _ _) rfl
  have z7 := H3.out.cell (b := Q) (o := 7) (.here _ _) rfl
  have z8 := H3.out.cell (b := Q) (o := 8) (.here _ _) rfl
  have y0 := H3.out.free (b := Q) (.here _ _) 0
  have y1 := H3.out.free (b := Q) (.here _ _) 1
  have y2 := H3.out.free (b := Q) (.here _ _) 2
  have y3 := H3.out.free (b := Q) (.here _ _) 3
  have y4 := H3.out.free (b := Q) (.here _ _) 4
  have y5 := H3.out.free (b := Q) (.here _ _) 5
  have y6 := H3.out.free (b := Q) (.here _ _) 6
  have y7 := H3.out.free (b := Q) (.here _ _) 7
  have y8 := H3.out.free (b := Q) (.here _ _) 8
  have q0 := H3.out.cell (b := G) (o := 0) (.there (.here _ _)) rfl
  have q1 := H3.out.cell (b := G) (o := 1) (.there (.here _ _)) rfl
  have q2 := H3.out.cell (b := G) (o := 2) (.there (.here _ _)) rfl
  have q3 := H3.out.cell (b := G) (o := 3) (.there (.here _ _)) rfl
  have q4 := H3.out.cell (b := G) (o := 4) (.there (.here _ _)) rfl
  have q5 := H3.out.cell (b := G) (o := 5) (.there (.here _ _)) rfl
  have q6 := H3.out.cell (b := G) (o := 6) (.there (.here _ _)) rfl
  have q7 := H3.out.cell (b := G) (o := 7) (.there (.here _ _)) rfl
  have q8 := H3.out.cell (b := G) (o := 8) (.there (.here _ _)) rfl
  have zero := Lib.hid ((H3.out.set9 (.int .i64 0) (.int .i64 0) (.int .i64 0) (.int .u64 0) (.int .i64 0) (.int .u64 0) (.int .u64 0) (.int .u64 0) (.slice none 0 0)).re (.step (.here _ _) (.drop (.drop (.same _)))))
  have full := Lib.hid ((H3.out.set9 (.int .i64 fr) (.int .i64 dst) (.int .i64 kind) (.int .u64 nn) (.int .i64 by1) (.int .u64 seq) (.int .u64 ack) (.int .u64 mask) (.slice ta data.length tc)).re (.step (.here _ _) (.drop (.same _))))
  clear H3
  by_cases hE : E = 0
  · by_cases hf : fr = x
    · have b1 : (fr != x) = false := by simpa using hf
      by_cases ht : dst = y
      · have b2 : (dst != y) = false := by simpa using ht
        have hif := Lib.hid (show ¬ (E = 0 ∧ ¬ (fr = x ∧ dst = y)) from fun h => h.2 ⟨hf, ht⟩)
        have b0 : (E == 0) = true := by simpa using hE
        clear hf ht hE zero
        go_wp2_with fail
        refine bodyPost_ret (for_results (g := ⟨kind, fr, dst, nn, by1, seq, ack, mask, data⟩) full.out rfl rfl) rfl ?_
        rw [hF.out, if_neg hif.out]
        exact ⟨ta, tc, rfl, full.out.tail⟩
      · have b2 : (dst != y) = true := by simpa using ht
        have hif := Lib.hid (show (E = 0 ∧ ¬ (fr = x ∧ dst = y)) from ⟨hE, fun h => ht h.2⟩)
        have b0 : (E == 0) = true := by simpa using hE
        clear hf ht hE full
        go_wp2_with fail
        exact bodyPost_ret (for_results (g := Gm0) zero.out rfl rfl) rfl (forPost_zero (by rw [hF.out, if_pos hif.out]) zero.out.tail rfl)
    · have b1 : (fr != x) = true := by simpa using hf
      have hif := Lib.hid (show (E = 0 ∧ ¬ (fr = x ∧ dst = y)) from ⟨hE, fun h => hf h.1⟩)
      have b0 : (E == 0) = true := by simpa using hE
      clear hf hE full
      go_wp2_with fail
      exact bodyPost_ret (for_results (g := Gm0) zero.out rfl rfl) rfl (forPost_zero (by rw [hF.out, if_pos hif.out]) zero.out.tail rfl)
  · have b0 : (E == 0) = false := by simpa using hE
    have hif := Lib.hid (show ¬ (E = 0 ∧ ¬ (fr = x ∧ dst = y)) from fun h => hE h.1)
    clear hE zero
    go_wp2_with fail
    refine bodyPost_ret (for_results (g := ⟨kind, fr, dst, nn, by1, seq, ack, mask, data⟩) full.out rfl rfl) rfl ?_
    rw [hF.out, if_neg hif.out]
    exact ⟨ta, tc, rfl, full.out.tail⟩
end Go.Proofs.YtilpkfgdlehmpaaDoor
