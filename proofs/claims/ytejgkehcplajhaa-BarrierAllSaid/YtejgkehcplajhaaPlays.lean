/- The walk of the law BarrierPlays. -/
import Derived.Test.YtejgkehcplajhaaRef4
import Derived.Test.YtejgkehcplajhaaBar5
import Derived.Test.YtejgkehcplajhaaBar6
import Derived.Test.YtejgkehcplajhaaInts
import Derived.Test.YtejgkehcplajhaaOrder
import Derived.Deep.CutBlock
import Derived.Deep.CutRange
namespace Go.Proofs.Ytejgkehcplajhaa
open Go.RowKit
set_option linter.unusedVariables false

structure Cx where
  w : World
  q : Nat
  cm : Nat
  ch : Nat
  am : Option Addr
  ah : Option Addr
  vs : List Value
  a : Option Addr
  c : Nat
  ms : List Int
  fr : Nat
  N : Nat

def CAN (x : Cx) (p m f : Nat) (ps : Int → Bool) (f2 : Nat) (ps2 : Int → Bool) (E : List Pc) : List Pc :=
  barB p (.slice x.a x.ms.length x.c) x.fr f x.N m :: iset m ps :: .own 3 1 (.slice x.a x.ms.length x.c) x.ms.length (iv x.ms) :: (E ++ (refL x.q x.cm x.ch x.fr f2 x.N x.am x.ah x.vs x.ms ps2 ++ [.old x.w no]))
def RST (x : Cx) (p m f : Nat) (ps : Int → Bool) (E : List Pc) : List Pc :=
  barB p (.slice x.a x.ms.length x.c) x.fr f x.N m :: iset m ps :: .own 3 1 (.slice x.a x.ms.length x.c) x.ms.length (iv x.ms) :: (E ++ [.old x.w no])

theorem can_ref {x : Cx} {p m f f2 : Nat} {ps ps2 : Int → Bool} {E : List Pc} {V : World} (H : SL V (CAN x p m f ps f2 ps2 E)) :
    SL V (refL x.q x.cm x.ch x.fr f2 x.N x.am x.ah x.vs x.ms ps2 ++ RST x p m f ps E) := by
  have h : SL V ((barB p (.slice x.a x.ms.length x.c) x.fr f x.N m :: iset m ps :: .own 3 1 (.slice x.a x.ms.length x.c) x.ms.length (iv x.ms) :: E) ++ (refL x.q x.cm x.ch x.fr f2 x.N x.am x.ah x.vs x.ms ps2 ++ [.old x.w no])) := H
  exact h.swap
theorem ref_can {x : Cx} {p m f f2 : Nat} {ps ps2 : Int → Bool} {E : List Pc} {V : World} (H : SL V (refL x.q x.cm x.ch x.fr f2 x.N x.am x.ah x.vs x.ms ps2 ++ RST x p m f ps E)) :
    SL V (CAN x p m f ps f2 ps2 E) := by
  have h : SL V (refL x.q x.cm x.ch x.fr f2 x.N x.am x.ah x.vs x.ms ps2 ++ ((barB p (.slice x.a x.ms.length x.c) x.fr f x.N m :: iset m ps :: .own 3 1 (.slice x.a x.ms.length x.c) x.ms.length (iv x.ms) :: E) ++ [.old x.w no])) := H
  exact h.swap

section
variable {x : Cx} {p m f f2 : Nat} {ps ps2 : Int → Bool} {E : List Pc} {V : World}

theorem pFrame (H : SL V (CAN x p m f ps f2 ps2 E)) (ok : BOk x.fr f x.N x.ms ps) :
    Calls Try.prog 12 #[.pointer (some ⟨p, 0, none⟩)] V fun e V' => e = .returned (.tuple #[.int .i64 f, .bool (decide ((f : Int) < x.N))]) ∧ SL V' (CAN x p m f ps f2 ps2 E) := by
  have hne : 1 ≤ x.ms.length := by have := ok.ne; cases h : x.ms with | nil => exact absurd h this | cons => simp
  have H1 := H
  unfold CAN barB at H1
  refine (frame_c p x.ms.length x.c m x.a x.fr f x.N V hne ⟨H1.cell (.here _ _) rfl, H1.cell (.here _ _) rfl, H1.cell (.here _ _) rfl⟩).mono ?_
  rintro e V' ⟨rfl, k, rfl⟩
  exact ⟨rfl, H.drewN k⟩

theorem pRefFrame (H : SL V (CAN x p m f ps f2 ps2 E)) (ok : BOk x.fr f2 x.N x.ms ps2) :
    Calls Try.prog 16 #[.pointer (some ⟨x.q, 0, none⟩)] V fun e V' => e = .returned (.int .i64 f2) ∧ V = V' :=
  refFrame_c x.q x.cm x.ch x.fr f2 x.N x.am x.ah x.vs x.ms ps2 V (can_ref H) ok.len ok.bound ok.lo ok.hi ok.some

theorem pPassed (H : SL V (CAN x p m f ps f2 ps2 E)) (ok : BOk x.fr f x.N x.ms ps) (y k : Int) :
    Calls Try.prog 13 #[.pointer (some ⟨p, 0, none⟩), .int .i64 y, .int .i64 k] V fun e V' =>
      e = .returned (.tuple #[.bool (passN x.fr f x.N x.ms ps y k).1, .int .i64 (passN x.fr f x.N x.ms ps y k).2.1]) ∧ SL V' (CAN x p m (passN x.fr f x.N x.ms ps y k).2.2.1 (passN x.fr f x.N x.ms ps y k).2.2.2 f2 ps2 E) := by
  have hne : 1 ≤ x.ms.length := by have := ok.ne; cases h : x.ms with | nil => exact absurd h this | cons => simp
  have hl := ok.len
  have hb := ok.bound
  have hh := ok.hi
  refine (Passed_c p x.ms.length x.c m x.a x.fr f x.N y k x.ms ps hne (by omega) (by omega) (by omega) V H).mono ?_
  rintro e V' ⟨h1, h2⟩
  rw [passM_N] at h1 h2
  exact ⟨h1, h2⟩

theorem pRefPassed (H : SL V (CAN x p m f ps f2 ps2 E)) (ok : BOk x.fr f2 x.N x.ms ps2) (y k : Int) :
    Calls Try.prog 17 #[.pointer (some ⟨x.q, 0, none⟩), .int .i64 y, .int .i64 k] V fun e V' =>
      e = .returned (.tuple #[.bool (passN x.fr f2 x.N x.ms ps2 y k).1, .int .i64 (passN x.fr f2 x.N x.ms ps2 y k).2.1]) ∧ SL V' (CAN x p m f ps (passN x.fr f2 x.N x.ms ps2 y k).2.2.1 (passN x.fr f2 x.N x.ms ps2 y k).2.2.2 E) := by
  refine (refPassed_c x.q x.cm x.ch x.fr f2 x.N x.am x.ah x.vs x.ms ps2 y k V (can_ref H) ok).mono ?_
  rintro e V' ⟨h1, h2⟩
  exact ⟨h1, ref_can h2⟩

theorem pMissing (H : SL V (CAN x p m f ps f2 ps2 E)) (ok : BOk x.fr f x.N x.ms ps) :
    Calls Try.prog 19 #[.pointer (some ⟨p, 0, none⟩)] V fun e V' => ∃ a' c', e = .returned (.slice a' (missM f x.N x.ms ps).length c') ∧
      SL V' (CAN x p m f ps f2 ps2 (.own 3 1 (.slice a' (missM f x.N x.ms ps).length c') (missM f x.N x.ms ps).length (iv (missM f x.N x.ms ps)) :: E)) := by
  have hne : 1 ≤ x.ms.length := by have := ok.ne; cases h : x.ms with | nil => exact absurd h this | cons => simp
  have hl := ok.len
  refine (Missing_c p x.ms.length x.c m x.a x.fr f x.N x.ms ps hne hl (by omega) V H).mono ?_
  rintro e V' ⟨a', c', h1, h2⟩
  refine ⟨a', c', h1, h2.re ?_⟩
  exact .step (.there (.here _ _)) (.step (.there (.here _ _)) (.step (.there (.here _ _)) (.same _)))

theorem pRefMissing (H : SL V (CAN x p m f ps f2 ps2 E)) (ok : BOk x.fr f2 x.N x.ms ps2) :
    Calls Try.prog 21 #[.pointer (some ⟨x.q, 0, none⟩)] V fun e V' => ∃ a' c', e = .returned (.slice a' (missM f2 x.N x.ms ps2).length c') ∧
      SL V' (CAN x p m f ps f2 ps2 (.own 3 1 (.slice a' (missM f2 x.N x.ms ps2).length c') (missM f2 x.N x.ms ps2).length (iv (missM f2 x.N x.ms ps2)) :: E)) := by
  refine (refMissing_c x.q x.cm x.ch x.fr f2 x.N x.am x.ah x.vs x.ms ps2 V (can_ref H) ok.len ok.bound ok.lo ok.hi ok.some).mono ?_
  rintro e V' ⟨a', c', h1, h2⟩
  refine ⟨a', c', h1, ref_can ?_⟩
  refine h2.perm ?_
  unfold RST
  refine (List.perm_middle (l₁ := refL _ _ _ _ _ _ _ _ _ _ _)).symm.trans (List.Perm.append_left _ ?_)
  refine (List.Perm.swap _ _ _).trans (.cons _ ((List.Perm.swap _ _ _).trans (.cons _ (List.Perm.swap _ _ _))))

theorem pHas (H : SL V (CAN x p m f ps f2 ps2 E)) (ok : BOk x.fr f x.N x.ms ps) (y k : Int) :
    Calls Try.prog 22 #[.pointer (some ⟨p, 0, none⟩), .int .i64 y, .int .i64 k] V fun e V' => e = .returned (.bool (hasM x.fr f x.ms ps y k)) ∧ V = V' := by
  have hne : 1 ≤ x.ms.length := by have := ok.ne; cases h : x.ms with | nil => exact absurd h this | cons => simp
  have hl := ok.len
  exact Has_c p x.ms.length x.c m x.a x.fr f x.N y k x.ms ps hne (by omega) V H
theorem pRefHas (H : SL V (CAN x p m f ps f2 ps2 E)) (ok : BOk x.fr f2 x.N x.ms ps2) (y k : Int) :
    Calls Try.prog 23 #[.pointer (some ⟨x.q, 0, none⟩), .int .i64 y, .int .i64 k] V fun e V' => e = .returned (.bool (hasM x.fr f2 x.ms ps2 y k)) ∧ V = V' :=
  refHas_c x.q x.cm x.ch x.fr f2 x.N x.am x.ah x.vs x.ms ps2 y k V (can_ref H) ok.len ok.bound ok.hi ok.last

theorem pCopy (H : SL V (CAN x p m f ps f2 ps2 E)) (ok : BOk x.fr f x.N x.ms ps) :
    Calls Try.prog 18 #[.pointer (some ⟨p, 0, none⟩)] V fun e V' => ∃ p' m', e = .returned (.pointer (some ⟨p', 0, none⟩)) ∧
      SL V' (CAN x p m f ps f2 ps2 (barB p' (.slice x.a x.ms.length x.c) x.fr f x.N m' :: iset m' ps :: E)) := by
  have hne : 1 ≤ x.ms.length := by have := ok.ne; cases h : x.ms with | nil => exact absurd h this | cons => simp
  refine (copy_c p x.ms.length x.c m x.a x.fr f x.N ps hne V H).mono ?_
  rintro e V' ⟨p', m', h1, h2⟩
  refine ⟨p', m', h1, h2.re ?_⟩
  exact .step (.there (.there (.here _ _))) (.step (.there (.there (.here _ _))) (.step (.there (.there (.here _ _))) (.same _)))
theorem can_kp (H : SL V (CAN x p m f ps f2 ps2 E)) : Kp no x.w V := H.all (.old x.w no) (by simp [CAN])
/-- The copy goes on, the old one is let go. -/
theorem can_turn {p' m' f' : Nat} {ps' : Int → Bool} (H : SL V (CAN x p m f' ps' f2 ps2 (barB p' (.slice x.a x.ms.length x.c) x.fr f x.N m' :: iset m' ps :: E))) : SL V (CAN x p' m' f ps f2 ps2 E) :=
  H.re (.step (.there (.there (.there (.here _ _)))) (.step (.there (.there (.there (.here _ _)))) (.step (.there (.there (.here _ _))) (.drop (.drop (.same _))))))
end

theorem SL.empty {w : World} {L : List Pc} (H : SL w L) (e : TypeId) : SL (w.alloc (.cells #[] e)) (.own e 1 (.slice (some ⟨w.heap.size, 0, none⟩) 0 0) 0 [] :: L) :=
  H.new (q := .own e 1 (.slice (some ⟨w.heap.size, 0, none⟩) 0 0) 0 []) ((Kp.refl no w).alloc _) ⟨rfl, .inr ⟨_, 0, #[], rfl, Nat.zero_le _, blk_new w _, Nat.le_refl _, Nat.zero_le _, rfl, rfl⟩⟩ (fun x hx => Nat.le_of_eq (Option.some.inj hx))

theorem good_ok {ms : List Int} {fr N : Nat} (h : Good ms fr N) (hl : ms.length ≤ 100) : BOk fr fr N ms (fun _ => false) := by
  obtain ⟨h1, h2, h3, h4, h5, h6⟩ := h
  have hlt : ∀ j i, i < j → j < ms.length → ms.getD i 0 < ms.getD j 0 := by
    intro j
    induction j with
    | zero => intro i hi; omega
    | succ j ih =>
      intro i hi hj
      have h7 := (h1 (j + 1) hj).1
      have h8 : prevI ms (j + 1) = ms.getD j 0 := by unfold prevI; rw [if_neg (by omega)]; rfl
      rw [h8] at h7
      by_cases e : i = j
      · subst e; exact h7
      · have := ih i (by omega) (by omega); omega
  refine ⟨?_, h2, hl, by omega, Nat.le_refl _, by omega, fun _ => ?_, fun _ _ _ => rfl⟩
  · refine List.pairwise_iff_getElem.2 fun i j hi hj hij => ?_
    have := hlt j i hij hj
    rw [List.getD_eq_getElem?_getD, List.getD_eq_getElem?_getD, List.getElem?_eq_getElem hi, List.getElem?_eq_getElem hj] at this
    simp only [Option.getD_some] at this
    omega
  · obtain ⟨y, hy⟩ := List.exists_mem_of_ne_nil _ h2
    exact ⟨y, hy, rfl⟩
end Go.Proofs.Ytejgkehcplajhaa
