/- The reference's member in memory; the walks of its Heard and May. -/
import Derived.Test.YtaibdcglhibglaaMemY
import Derived.Test.YtaibdcglhibglaaRefN
import Derived.Test.YtaibdcglhibglaaInts
namespace Go.Proofs.Ytaibdcglhibglaa
open Go.RowKit
set_option linter.unusedVariables false

theorem less_cmp (N By M Cy : Int) : lessE N By M Cy = decide (0 < cmpE M Cy N By) := by
  unfold lessE cmpE orL orL orL cmpI
  by_cases h1 : M < N
  · have h2 : ¬ N < M := by omega
    have h3 : ¬ N = M := by omega
    simp [h1, h2, h3]
  · by_cases h2 : N < M
    · simp [h1, h2]
    · have h3 : N = M := by omega
      subst h3
      by_cases h4 : By < Cy
      · have : ¬ Cy < By := by omega
        simp [h4, this]
      · by_cases h5 : Cy < By
        · simp [h4, h5]
        · simp [h4, h5]

/-- The reference's member: as 'memB', but for who joined. -/
def refB (p : Nat) (self nodes disp N By : Int) (s : Value) (gN gBy : Int) (owes : Bool) (j : Value) (count : Int) : Pc :=
  .blk p [.int .i64 self, .int .i64 nodes, .int .i64 disp, .int .u32 N, .int .i64 By, s, .int .u32 gN, .int .i64 gBy, .bool owes, j, .int .i64 count] 68

section
variable {p : Nat} {self nodes disp N By gN gBy count : Int} {s j : Value} {owes : Bool} {L : List Pc} {w : World}
set_option maxHeartbeats 4000000 in
theorem refHeard_c (H : SL w (refB p self nodes disp N By s gN gBy owes j count :: L)) (M Cy : Int) :
    Calls Try.prog 43 #[.pointer (some ⟨p, 0, none⟩), .agg #[.int .u32 M, .int .i64 Cy]] w fun r w' => r = .returned (.int .i64 (heardM nodes M Cy gN gBy).1) ∧
      SL w' (refB p self nodes disp N By s (heardM nodes M Cy gN gBy).2.1 (heardM nodes M Cy gN gBy).2.2 owes j count :: L) := by
  have H1 := H.alloc [.int .u32 M, .int .i64 Cy] 31
  have hH := Lib.hid H1
  have hle := Lib.hid (fun V => refLess_c gN gBy M Cy V)
  obtain ⟨X, hX⟩ : ∃ X, heardM nodes M Cy gN gBy = X := ⟨_, rfl⟩
  rw [hX]
  unfold heardM maxE at hX
  obtain ⟨e, he⟩ : ∃ e, decide (0 < cmpE M Cy gN gBy) = e := ⟨_, rfl⟩
  simp only [less_cmp, he] at hle
  have he' := Lib.hid he
  have hX' := Lib.hid hX
  clear H H1 hX he
  go_enter Try.func43, Try.ntmps43
  go_wp2_with fail
  generalize w.alloc (.cells #[.int .u32 M, .int .i64 Cy] 31) = w2 at *
  generalize w.heap.size = b1 at *
  have c0 := hH.out.cell (o := 0) (.here _ _) rfl
  have c1 := hH.out.cell (o := 1) (.here _ _) rfl
  have g1 := hH.out.cell (o := 1) (.there (.here _ _)) rfl
  by_cases h0 : Cy < 0
  · have hfin := Lib.hid (show X = (240, gN, gBy) from by rw [← hX'.out, if_pos (.inl h0)])
    clear hX'
    go_quiet (fail)
    have H3 := Lib.hid (hH.out.drewN nq)
    go_wp2_with fail
    go_ret
    exact ⟨by rw [hfin.out]; rfl, by rw [hfin.out]; exact H3.out.re (.drop (.same _))⟩
  have h0' : 0 ≤ Cy := by omega
  clear h0
  by_cases h1 : nodes ≤ Cy
  · have hfin := Lib.hid (show X = (240, gN, gBy) from by rw [← hX'.out, if_pos (.inr h1)])
    clear hX'
    go_quiet (fail)
    have H3 := Lib.hid (hH.out.drewN nq)
    go_wp2_with fail
    go_ret
    exact ⟨by rw [hfin.out]; rfl, by rw [hfin.out]; exact H3.out.re (.drop (.same _))⟩
  have h1' : Cy < nodes := by omega
  have hX2 := hX'.out
  rw [if_neg (by omega)] at hX2
  have hX3 := Lib.hid hX2
  clear h1 hX' hX2
  go_quiet (fail)
  have H3 := Lib.hid (hH.out.drewN nq)
  generalize w2.drewN nq = w3 at *
  clear hH c0 c1 g1
  have hH := H3
  clear H3
  go_wp2_with fail
  refine wp_region_held_drew (S := (fun W => W.cell? ⟨b1, 0, none⟩ = some (.int .u32 M) ∧ W.cell? ⟨b1, 1, none⟩ = some (.int .i64 Cy) ∧ W.cell? ⟨p, 6, none⟩ = some (.int .u32 gN) ∧ W.cell? ⟨p, 7, none⟩ = some (.int .i64 gBy))) (by kernel_rfl) ?_ (fun hHeld => ?_)
  · have H := hH.out.drew
    exact ⟨H.cell (b := b1) (o := 0) (by first | exact .here _ _ | exact .there (.here _ _) | exact .there (.there (.here _ _)) | exact .there (.there (.there (.here _ _))) | exact .there (.there (.there (.there (.here _ _)))) | exact .there (.there (.there (.there (.there (.here _ _))))) | exact .there (.there (.there (.there (.there (.there (.here _ _)))))) | exact .there (.there (.there (.there (.there (.there (.there (.here _ _))))))) | exact .there (.there (.there (.there (.there (.there (.there (.there (.here _ _)))))))) | exact .there (.there (.there (.there (.there (.there (.there (.there (.there (.here _ _))))))))) | exact .there (.there (.there (.there (.there (.there (.there (.there (.there (.there (.here _ _)))))))))) | exact .there (.there (.there (.there (.there (.there (.there (.there (.there (.there (.there (.here _ _))))))))))) | exact .there (.there (.there (.there (.there (.there (.there (.there (.there (.there (.there (.there (.here _ _)))))))))))) | exact .there (.there (.there (.there (.there (.there (.there (.there (.there (.there (.there (.there (.there (.here _ _)))))))))))))) rfl, H.cell (b := b1) (o := 1) (by first | exact .here _ _ | exact .there (.here _ _) | exact .there (.there (.here _ _)) | exact .there (.there (.there (.here _ _))) | exact .there (.there (.there (.there (.here _ _)))) | exact .there (.there (.there (.there (.there (.here _ _))))) | exact .there (.there (.there (.there (.there (.there (.here _ _)))))) | exact .there (.there (.there (.there (.there (.there (.there (.here _ _))))))) | exact .there (.there (.there (.there (.there (.there (.there (.there (.here _ _)))))))) | exact .there (.there (.there (.there (.there (.there (.there (.there (.there (.here _ _))))))))) | exact .there (.there (.there (.there (.there (.there (.there (.there (.there (.there (.here _ _)))))))))) | exact .there (.there (.there (.there (.there (.there (.there (.there (.there (.there (.there (.here _ _))))))))))) | exact .there (.there (.there (.there (.there (.there (.there (.there (.there (.there (.there (.there (.here _ _)))))))))))) | exact .there (.there (.there (.there (.there (.there (.there (.there (.there (.there (.there (.there (.there (.here _ _)))))))))))))) rfl, H.cell (b := p) (o := 6) (by first | exact .here _ _ | exact .there (.here _ _) | exact .there (.there (.here _ _)) | exact .there (.there (.there (.here _ _))) | exact .there (.there (.there (.there (.here _ _)))) | exact .there (.there (.there (.there (.there (.here _ _))))) | exact .there (.there (.there (.there (.there (.there (.here _ _)))))) | exact .there (.there (.there (.there (.there (.there (.there (.here _ _))))))) | exact .there (.there (.there (.there (.there (.there (.there (.there (.here _ _)))))))) | exact .there (.there (.there (.there (.there (.there (.there (.there (.there (.here _ _))))))))) | exact .there (.there (.there (.there (.there (.there (.there (.there (.there (.there (.here _ _)))))))))) | exact .there (.there (.there (.there (.there (.there (.there (.there (.there (.there (.there (.here _ _))))))))))) | exact .there (.there (.there (.there (.there (.there (.there (.there (.there (.there (.there (.there (.here _ _)))))))))))) | exact .there (.there (.there (.there (.there (.there (.there (.there (.there (.there (.there (.there (.there (.here _ _)))))))))))))) rfl, H.cell (b := p) (o := 7) (by first | exact .here _ _ | exact .there (.here _ _) | exact .there (.there (.here _ _)) | exact .there (.there (.there (.here _ _))) | exact .there (.there (.there (.there (.here _ _)))) | exact .there (.there (.there (.there (.there (.here _ _))))) | exact .there (.there (.there (.there (.there (.there (.here _ _)))))) | exact .there (.there (.there (.there (.there (.there (.there (.here _ _))))))) | exact .there (.there (.there (.there (.there (.there (.there (.there (.here _ _)))))))) | exact .there (.there (.there (.there (.there (.there (.there (.there (.there (.here _ _))))))))) | exact .there (.there (.there (.there (.there (.there (.there (.there (.there (.there (.here _ _)))))))))) | exact .there (.there (.there (.there (.there (.there (.there (.there (.there (.there (.there (.here _ _))))))))))) | exact .there (.there (.there (.there (.there (.there (.there (.there (.there (.there (.there (.there (.here _ _)))))))))))) | exact .there (.there (.there (.there (.there (.there (.there (.there (.there (.there (.there (.there (.there (.here _ _)))))))))))))) rfl⟩
  have H := hH.out.drew
  generalize World.drew w3 = w4 at *
  clear hH
  refine takeL (i := 0) rfl (by kernel_rfl) (by kernel_rfl) (by kernel_rfl) (fun _ _ _ _ h => h) hHeld ?_ (Or.inl ⟨by rfl, ?_⟩) ?_
  rotate_left
  · intro W hW
    (try dsimp only at hW)
    first | (go_simp; done) | (go_simp; with_reducible rfl)
  ((try simp only [Act.put]); (try simp only [List.setIfInBounds_toArray]); (try simp only [List.set_cons_succ]); (try simp only [List.set_cons_zero]))
  refine takeL (i := 1) rfl (by kernel_rfl) (by kernel_rfl) (by kernel_rfl) (fun _ _ _ _ h => h) hHeld ?_ (Or.inl ⟨by rfl, ?_⟩) ?_
  rotate_left
  · intro W hW
    (try dsimp only at hW)
    first | (go_simp; done) | (go_simp; with_reducible rfl)
  ((try simp only [Act.put]); (try simp only [List.setIfInBounds_toArray]); (try simp only [List.set_cons_succ]); (try simp only [List.set_cons_zero]))
  refine takeL (i := 2) rfl (by kernel_rfl) (by kernel_rfl) (by kernel_rfl) (fun _ _ _ _ h => h) hHeld ?_ (Or.inl ⟨by rfl, ?_⟩) ?_
  rotate_left
  · intro W hW
    (try dsimp only at hW)
    first | (go_simp; done) | (go_simp; with_reducible rfl)
  ((try simp only [Act.put]); (try simp only [List.setIfInBounds_toArray]); (try simp only [List.set_cons_succ]); (try simp only [List.set_cons_zero]))
  refine takeL (i := 3) rfl (by kernel_rfl) (by kernel_rfl) (by kernel_rfl) (fun _ _ _ _ h => h) hHeld ?_ (Or.inl ⟨by rfl, ?_⟩) ?_
  rotate_left
  · intro W hW
    (try dsimp only at hW)
    first | (go_simp; done) | (go_simp; with_reducible rfl)
  ((try simp only [Act.put]); (try simp only [List.setIfInBounds_toArray]); (try simp only [List.set_cons_succ]); (try simp only [List.set_cons_zero]))
  refine takeL (i := 4) rfl (by kernel_rfl) (by kernel_rfl) (by kernel_rfl) (fun _ _ _ _ h => h) hHeld ?_ (Or.inl ⟨by rfl, ?_⟩) ?_
  rotate_left
  · intro W hW
    (try dsimp only at hW)
    first | (go_simp; done) | (go_simp; with_reducible rfl)
  ((try simp only [Act.put]); (try simp only [List.setIfInBounds_toArray]); (try simp only [List.set_cons_succ]); (try simp only [List.set_cons_zero]))
  refine callL (i := 5) rfl (by kernel_rfl) (fun K hK => ?_)
  rw [if_pos (by rfl)]
  go_simp
  refine (hle.out _).mono ?_
  rintro r w5 ⟨rfl, hK5⟩
  have H' := H.quiet hK5
  clear H hK5 hHeld
  have H := H'
  clear H'
  refine hK.out _ _ ?_ (fun hHeld => ?_)
  · exact ⟨H.cell (b := b1) (o := 0) (by first | exact .here _ _ | exact .there (.here _ _) | exact .there (.there (.here _ _)) | exact .there (.there (.there (.here _ _))) | exact .there (.there (.there (.there (.here _ _)))) | exact .there (.there (.there (.there (.there (.here _ _))))) | exact .there (.there (.there (.there (.there (.there (.here _ _)))))) | exact .there (.there (.there (.there (.there (.there (.there (.here _ _))))))) | exact .there (.there (.there (.there (.there (.there (.there (.there (.here _ _)))))))) | exact .there (.there (.there (.there (.there (.there (.there (.there (.there (.here _ _))))))))) | exact .there (.there (.there (.there (.there (.there (.there (.there (.there (.there (.here _ _)))))))))) | exact .there (.there (.there (.there (.there (.there (.there (.there (.there (.there (.there (.here _ _))))))))))) | exact .there (.there (.there (.there (.there (.there (.there (.there (.there (.there (.there (.there (.here _ _)))))))))))) | exact .there (.there (.there (.there (.there (.there (.there (.there (.there (.there (.there (.there (.there (.here _ _)))))))))))))) rfl, H.cell (b := b1) (o := 1) (by first | exact .here _ _ | exact .there (.here _ _) | exact .there (.there (.here _ _)) | exact .there (.there (.there (.here _ _))) | exact .there (.there (.there (.there (.here _ _)))) | exact .there (.there (.there (.there (.there (.here _ _))))) | exact .there (.there (.there (.there (.there (.there (.here _ _)))))) | exact .there (.there (.there (.there (.there (.there (.there (.here _ _))))))) | exact .there (.there (.there (.there (.there (.there (.there (.there (.here _ _)))))))) | exact .there (.there (.there (.there (.there (.there (.there (.there (.there (.here _ _))))))))) | exact .there (.there (.there (.there (.there (.there (.there (.there (.there (.there (.here _ _)))))))))) | exact .there (.there (.there (.there (.there (.there (.there (.there (.there (.there (.there (.here _ _))))))))))) | exact .there (.there (.there (.there (.there (.there (.there (.there (.there (.there (.there (.there (.here _ _)))))))))))) | exact .there (.there (.there (.there (.there (.there (.there (.there (.there (.there (.there (.there (.there (.here _ _)))))))))))))) rfl, H.cell (b := p) (o := 6) (by first | exact .here _ _ | exact .there (.here _ _) | exact .there (.there (.here _ _)) | exact .there (.there (.there (.here _ _))) | exact .there (.there (.there (.there (.here _ _)))) | exact .there (.there (.there (.there (.there (.here _ _))))) | exact .there (.there (.there (.there (.there (.there (.here _ _)))))) | exact .there (.there (.there (.there (.there (.there (.there (.here _ _))))))) | exact .there (.there (.there (.there (.there (.there (.there (.there (.here _ _)))))))) | exact .there (.there (.there (.there (.there (.there (.there (.there (.there (.here _ _))))))))) | exact .there (.there (.there (.there (.there (.there (.there (.there (.there (.there (.here _ _)))))))))) | exact .there (.there (.there (.there (.there (.there (.there (.there (.there (.there (.there (.here _ _))))))))))) | exact .there (.there (.there (.there (.there (.there (.there (.there (.there (.there (.there (.there (.here _ _)))))))))))) | exact .there (.there (.there (.there (.there (.there (.there (.there (.there (.there (.there (.there (.there (.here _ _)))))))))))))) rfl, H.cell (b := p) (o := 7) (by first | exact .here _ _ | exact .there (.here _ _) | exact .there (.there (.here _ _)) | exact .there (.there (.there (.here _ _))) | exact .there (.there (.there (.there (.here _ _)))) | exact .there (.there (.there (.there (.there (.here _ _))))) | exact .there (.there (.there (.there (.there (.there (.here _ _)))))) | exact .there (.there (.there (.there (.there (.there (.there (.here _ _))))))) | exact .there (.there (.there (.there (.there (.there (.there (.there (.here _ _)))))))) | exact .there (.there (.there (.there (.there (.there (.there (.there (.there (.here _ _))))))))) | exact .there (.there (.there (.there (.there (.there (.there (.there (.there (.there (.here _ _)))))))))) | exact .there (.there (.there (.there (.there (.there (.there (.there (.there (.there (.there (.here _ _))))))))))) | exact .there (.there (.there (.there (.there (.there (.there (.there (.there (.there (.there (.there (.here _ _)))))))))))) | exact .there (.there (.there (.there (.there (.there (.there (.there (.there (.there (.there (.there (.there (.here _ _)))))))))))))) rfl⟩
  clear hK K
  ((try simp only [Act.put]); (try simp only [List.setIfInBounds_toArray]); (try simp only [List.set_cons_succ]); (try simp only [List.set_cons_zero]))
  refine takeL (i := 6) rfl (by kernel_rfl) (by kernel_rfl) (by kernel_rfl) (fun _ _ _ _ h => h) hHeld ?_ (Or.inl ⟨by rfl, ?_⟩) ?_
  rotate_left
  · intro W hW
    (try dsimp only at hW)
    first | (go_simp; done) | (go_simp; with_reducible rfl)
  ((try simp only [Act.put]); (try simp only [List.setIfInBounds_toArray]); (try simp only [List.set_cons_succ]); (try simp only [List.set_cons_zero]))
  refine wpAnyH_done (by kernel_rfl) ?_ _
  
  have c0 := H.cell (o := 0) (.here _ _) rfl
  have c1 := H.cell (o := 1) (.here _ _) rfl
  have g6 := H.cell (b := p) (o := 6) (.there (.here _ _)) rfl
  have g7 := H.cell (b := p) (o := 7) (.there (.here _ _)) rfl
  have fz := fun o => H.free (b := p) (.there (.here _ _)) o
  cases e
  · have hfin := Lib.hid (show X = (0, gN, gBy) from by rw [← hX3.out, if_neg (of_decide_eq_false he'.out)])
    have hH := Lib.hid H
    clear hX3 H hHeld
    go_wp2_with fail
    go_ret
    exact ⟨by rw [hfin.out]; rfl, by rw [hfin.out]; exact hH.out.re (.drop (.same _))⟩
  · have hfin := Lib.hid (show X = (0, M, Cy) from by rw [← hX3.out, if_pos (of_decide_eq_true he'.out)])
    have H5 := Lib.hid (((H.re (L' := refB p self nodes disp N By s gN gBy owes j count :: L) (.drop (.same _))).setCell 6 (.int .u32 M)).setCell 7 (.int .i64 Cy))
    clear hX3 H hHeld
    go_wp2_with fail
    go_ret
    exact ⟨by rw [hfin.out]; rfl, by rw [hfin.out]; exact H5.out⟩
end

set_option maxHeartbeats 4000000 in
theorem refMay_c (M By nodes : Int) (l : List Int) (a : Option Addr) (c : Nat) (w : World) (hl : l.length ≤ 1000000) (hr : RdI w a l) :
    Calls Try.prog 31 #[.agg #[.int .u32 M, .int .i64 By, .slice a l.length c], .int .i64 nodes] w fun r w' => r = .returned (.bool (mayM By l nodes)) ∧ Kp no w w' := by
  have hH := Lib.hid ((SL.start w).alloc [.int .u32 M, .int .i64 By, .slice a l.length c] 34)
  have hri := Lib.hid (fun V (h : Kp no w V) => refNodes_c l nodes a c V hl (hr.no h))
  have hr0 : Hid (risingI l nodes = true → ∃ b o, a = some ⟨b, o, none⟩ ∧ ∀ V, Kp no w V → V.cell? ⟨b, o, none⟩ = some (.int .i64 (l.getD 0 0))) := Lib.hid (fun h => by
    obtain ⟨b, o, h1, h2⟩ := hr 0 (rising_pos h)
    exact ⟨b, o, h1, fun V hk => hk.cell h2 (fun h => h)⟩)
  have hm : Hid (mayM By l nodes = (decide (1 ≤ nodes ∧ nodes ≤ 64) && (risingI l nodes && decide (l.getD 0 0 = By)))) := Lib.hid rfl
  have hpos : Hid (risingI l nodes = true → 0 < l.length) := Lib.hid rising_pos
  obtain ⟨len, hlen⟩ : ∃ len, l.length = len := ⟨_, rfl⟩
  rw [hlen] at hH hri hpos ⊢
  generalize l.getD 0 0 = y at *
  generalize risingI l nodes = q at *
  clear hr hl hlen
  go_enter Try.func31, Try.ntmps31
  go_wp2_with fail
  generalize w.alloc (.cells #[.int .u32 M, .int .i64 By, .slice a len c] 34) = w2 at *
  generalize w.heap.size = b1 at *
  have c0 := hH.out.cell (o := 0) (.here _ _) rfl
  have c1 := hH.out.cell (o := 1) (.here _ _) rfl
  have c2 := hH.out.cell (o := 2) (.here _ _) rfl
  refine (hri.out _ (hH.out.kp (.there (.here _ _)))).mono ?_
  rintro r w' ⟨rfl, rfl⟩
  go_wp2_with fail
  by_cases h1 : nodes < 1
  · have e1 : decide (1 ≤ nodes) = false := decide_eq_false (by omega)
    rw [decide_eq_false (by omega)] at hm
    go_quiet (fail)
    have H3 := Lib.hid (hH.out.drewN nq)
    go_wp2_with fail
    go_ret
    exact ⟨by rw [hm.out]; rfl, H3.out.kp (.there (.here _ _))⟩
  have h1' : 1 ≤ nodes := by omega
  clear h1
  by_cases h2 : 64 < nodes
  · have e2 : decide (nodes ≤ 64) = false := decide_eq_false (by omega)
    rw [decide_eq_false (by omega)] at hm
    go_quiet (fail)
    have H3 := Lib.hid (hH.out.drewN nq)
    go_wp2_with fail
    go_ret
    exact ⟨by rw [hm.out]; rfl, H3.out.kp (.there (.here _ _))⟩
  have h2' : nodes ≤ 64 := by omega
  clear h2
  rw [decide_eq_true ⟨h1', h2'⟩] at hm
  cases q
  · go_quiet (fail)
    have H3 := Lib.hid (hH.out.drewN nq)
    go_wp2_with fail
    go_ret
    exact ⟨by rw [hm.out]; rfl, H3.out.kp (.there (.here _ _))⟩
  · obtain ⟨b, o, rfl, hc⟩ := hr0.out rfl
    have hcc := hc w2 (hH.out.kp (.there (.here _ _)))
    have hp := hpos.out rfl
    obtain ⟨e, he⟩ : ∃ e, decide (y = By) = e := ⟨_, rfl⟩
    have heq : (y == By) = e := by rw [← he]; rfl
    rw [he] at hm
    clear hc he
    go_quiet (fail)
    have H3 := Lib.hid (hH.out.drewN nq)
    go_wp2_with fail
    go_ret
    exact ⟨by rw [hm.out]; simp, H3.out.kp (.there (.here _ _))⟩
end Go.Proofs.Ytaibdcglhibglaa
