/- The walks of the chapter's first example: some, alive. -/
import Derived.Test.YtejgkehcplajhaaBar6
import Derived.Test.YtejgkehcplajhaaInts
import Derived.Test.YtejgkehcplajhaaReg
namespace Go.Proofs.Ytejgkehcplajhaa
open Go.RowKit
set_option linter.unusedVariables false

/-- A barrier's pieces. -/
def BAR (p m : Nat) (a : Option Addr) (c : Nat) (ms : List Int) (fr f n : Int) (ps : Int → Bool) (L : List Pc) : List Pc :=
  barB p (.slice a ms.length c) fr f n m :: iset m ps :: .own 3 1 (.slice a ms.length c) ms.length (iv ms) :: L

theorem bFrame {p m c : Nat} {a : Option Addr} {ms : List Int} {fr f n : Int} {ps : Int → Bool} {L : List Pc} {w : World} (H : SL w (BAR p m a c ms fr f n ps L)) (hne : ms ≠ []) :
    Calls Try.prog 12 #[.pointer (some ⟨p, 0, none⟩)] w fun e w' => e = .returned (.tuple #[.int .i64 f, .bool (decide (f < n))]) ∧ SL w' (BAR p m a c ms fr f n ps L) := by
  have hl : 1 ≤ ms.length := by cases ms with | nil => exact absurd rfl hne | cons => simp
  have H1 := H
  unfold BAR barB at H1
  refine (frame_c p ms.length c m a fr f n w hl ⟨H1.cell (.here _ _) rfl, H1.cell (.here _ _) rfl, H1.cell (.here _ _) rfl⟩).mono ?_
  rintro e w' ⟨rfl, k, rfl⟩
  exact ⟨rfl, H.drewN k⟩

theorem bPassed {p m c : Nat} {a : Option Addr} {ms : List Int} {fr f n : Int} {ps : Int → Bool} {L : List Pc} {w : World} (H : SL w (BAR p m a c ms fr f n ps L)) (hne : ms ≠ []) (hl : ms.length ≤ 100) (h0 : 0 ≤ f) (h1 : f ≤ 1000) (x k : Int)
    {b : Bool} {er f' : Int} {ps' : Int → Bool} (hr : passM fr f n ms ps x k = (b, er, f', ps')) :
    Calls Try.prog 13 #[.pointer (some ⟨p, 0, none⟩), .int .i64 x, .int .i64 k] w fun e w' => e = .returned (.tuple #[.bool b, .int .i64 er]) ∧ SL w' (BAR p m a c ms fr f' n ps' L) := by
  have hl1 : 1 ≤ ms.length := by cases ms with | nil => exact absurd rfl hne | cons => simp
  refine (Passed_c p ms.length c m a fr f n x k ms ps hl1 (by omega) (by omega) h0 w H).mono ?_
  rintro e w' ⟨h1, h2⟩
  rw [hr] at h1 h2
  exact ⟨h1, h2⟩

theorem bMissing {p m c : Nat} {a : Option Addr} {ms : List Int} {fr f n : Int} {ps : Int → Bool} {L : List Pc} {w : World} (H : SL w (BAR p m a c ms fr f n ps L)) (hne : ms ≠ []) (hl : ms.length ≤ 100) {X : List Int} (hX : missM f n ms ps = X) :
    Calls Try.prog 19 #[.pointer (some ⟨p, 0, none⟩)] w fun e w' => ∃ a' c', e = .returned (.slice a' X.length c') ∧
      SL w' (BAR p m a c ms fr f n ps (.own 3 1 (.slice a' X.length c') X.length (iv X) :: L)) := by
  have hl1 : 1 ≤ ms.length := by cases ms with | nil => exact absurd rfl hne | cons => simp
  refine (Missing_c p ms.length c m a fr f n ms ps hl1 hl (by omega) w H).mono ?_
  rintro e w' ⟨a', c', h1, h2⟩
  rw [hX] at h1 h2
  exact ⟨a', c', h1, h2.re (.step (.there (.here _ _)) (.step (.there (.here _ _)) (.step (.there (.here _ _)) (.same _))))⟩

theorem bHas {p m c : Nat} {a : Option Addr} {ms : List Int} {fr f n : Int} {ps : Int → Bool} {L : List Pc} {w : World} (H : SL w (BAR p m a c ms fr f n ps L)) (hne : ms ≠ []) (hl : ms.length ≤ 100) (x k : Int) :
    Calls Try.prog 22 #[.pointer (some ⟨p, 0, none⟩), .int .i64 x, .int .i64 k] w fun e w' => e = .returned (.bool (hasM fr f ms ps x k)) ∧ w = w' := by
  have hl1 : 1 ≤ ms.length := by cases ms with | nil => exact absurd rfl hne | cons => simp
  exact Has_c p ms.length c m a fr f n x k ms ps hl1 (by omega) w H

theorem bNew {ms : List Int} {fr n : Int} {b c : Nat} {w : World} {L : List Pc} (H : SL w (.blk b (iv ms) 3 :: L)) (hl : ms.length ≤ 100) :
    Calls Try.prog 14 #[.slice (some ⟨b, 0, none⟩) ms.length c, .int .i64 fr, .int .i64 n] w (NewPost ms fr n w (.blk b (iv ms) 3 :: L)) :=
  new_c ms fr n _ c w H hl (RdI.of_rd (H.rdBlk (.here _ _)))

theorem good145 : Good [1, 4, 5] 7 9 := by
  refine ⟨fun k hk => ?_, by simp, by omega, by omega, by omega, by omega⟩
  have : k = 0 ∨ k = 1 ∨ k = 2 := by simp at hk; omega
  rcases this with rfl | rfl | rfl <;> simp [okAt, prevI]

theorem some_c (w : World) {L : List Pc} (H : SL w L) : Calls Try.prog 24 #[] w fun e w' => ∃ p m a c, e = .returned (.pointer (some ⟨p, 0, none⟩)) ∧ SL w' (BAR p m a c [1, 4, 5] 7 7 9 (fun _ => false) L) := by
  have hH := Lib.hid H
  clear H
  go_enter Try.func24, Try.ntmps24
  go_wp2_with fail
  have H1 := hH.out.alloc (iv [1, 4, 5]) 3
  have hn := Lib.hid (bNew (fr := 7) (n := 9) (c := 3) H1 (by decide))
  refine hn.out.mono ?_
  rintro e V (⟨hg, -⟩ | ⟨-, p, m, a, c, rfl, H⟩)
  · exact absurd good145 hg
  · have hH3 := Lib.hid H
    clear H hn H1
    go_wp2_with fail
    go_ret
    exact ⟨p, m, a, c, rfl, hH3.out.re (.step (.here _ _) (.step (.here _ _) (.step (.here _ _) (.drop (.same _)))))⟩

set_option maxHeartbeats 1000000 in
theorem alive_c (w : World) {L : List Pc} (H : SL w L) : Calls Try.prog 10 #[] w fun e w' => e = .returned (.bool true) ∧ SL w' L := by
  have hS := Lib.hid (some_c w H)
  clear H
  go_enter Try.func10, Try.ntmps10
  go_wp2_with fail
  refine hS.out.mono ?_
  rintro e w1 ⟨p, m, a, c, rfl, H1⟩
  have h1 := Lib.hid (bFrame H1 (by simp))
  clear H1 hS
  go_wp2_with fail
  refine h1.out.mono ?_
  rintro e w2 ⟨rfl, H2⟩
  have h2 := Lib.hid (bPassed H2 (by simp) (by decide) (by omega) (by omega) 4 7 (b := false) (er := 0) (f' := 7) (ps' := fun y => false || y == 4) (by kernel_rfl))
  clear h1 H2
  go_wp2_with fail
  refine h2.out.mono ?_
  rintro e w3 ⟨rfl, H3⟩
  have h3 := Lib.hid (bPassed H3 (by simp) (by decide) (by omega) (by omega) 1 7 (b := false) (er := 0) (f' := 7) (ps' := fun y => (false || y == 4) || y == 1) (by kernel_rfl))
  clear h2 H3
  go_wp2_with fail
  refine h3.out.mono ?_
  rintro e w4 ⟨rfl, H4⟩
  have h4 := Lib.hid (bMissing H4 (by simp) (by decide) (X := [5]) (by kernel_rfl))
  clear h3 H4
  go_wp2_with fail
  refine h4.out.mono ?_
  rintro e w5 ⟨a5, c5, rfl, H5⟩
  have h5 := Lib.hid (bPassed H5 (by simp) (by decide) (by omega) (by omega) 5 7 (b := true) (er := 0) (f' := 8) (ps' := fun _ => false) (by kernel_rfl))
  clear h4 H5
  go_wp2_with fail
  refine h5.out.mono ?_
  rintro e w6 ⟨rfl, H6⟩
  have h6 := Lib.hid (bFrame H6 (by simp))
  clear h5 H6
  go_wp2_with fail
  refine h6.out.mono ?_
  rintro e w7 ⟨rfl, H7⟩
  have H8 := H7.alloc (iv [5]) 3
  have hI := Lib.hid (ints_yes a5 (some ⟨w7.heap.size, 0, none⟩) [5] c5 1 _ (by decide) (OwnK.rdI (H8.ownOf (by unfold BAR; exact (by first | exact .here _ _ | exact .there (.here _ _) | exact .there (.there (.here _ _)) | exact .there (.there (.there (.here _ _))) | exact .there (.there (.there (.there (.here _ _)))) | exact .there (.there (.there (.there (.there (.here _ _))))) | exact .there (.there (.there (.there (.there (.there (.here _ _)))))) | exact .there (.there (.there (.there (.there (.there (.there (.here _ _))))))) | exact .there (.there (.there (.there (.there (.there (.there (.there (.here _ _)))))))) | exact .there (.there (.there (.there (.there (.there (.there (.there (.there (.here _ _))))))))) | exact .there (.there (.there (.there (.there (.there (.there (.there (.there (.there (.here _ _)))))))))) | exact .there (.there (.there (.there (.there (.there (.there (.there (.there (.there (.there (.here _ _))))))))))) | exact .there (.there (.there (.there (.there (.there (.there (.there (.there (.there (.there (.there (.here _ _)))))))))))) | exact .there (.there (.there (.there (.there (.there (.there (.there (.there (.there (.there (.there (.there (.here _ _))))))))))))))))).2.2 (RdI.of_rd (H8.rdBlk (.here _ _))))
  have hH8 := Lib.hid H8
  clear h6 H7 H8
  go_wp2_with fail
  refine hI.out.mono ?_
  rintro e w8 ⟨rfl, nd, rfl⟩
  have hf := Lib.hid ((hH8.out.drewN nd).re (L' := L) (.drop (.drop (.drop (.drop (.drop (.same _)))))))
  clear hI hH8
  go_wp2_with fail
  go_ret
  exact ⟨rfl, hf.out⟩
end Go.Proofs.Ytejgkehcplajhaa
