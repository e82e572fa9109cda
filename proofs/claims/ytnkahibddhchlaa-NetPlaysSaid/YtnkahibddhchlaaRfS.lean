/- What do asks for Send. -/
import Derived.Test.YtnkahibddhchlaaRfR
namespace Go.Proofs.Ytnkahibddhchlaa
open Go.RowKit Go.Shelf
set_option linter.unusedVariables false

theorem str_snoc (l : List Int) (z : Int) : strOfNums (l ++ [z]) = (strOfNums l).push (UInt8.ofNat z.toNat) := by
  unfold strOfNums
  rw [List.map_append]
  simp [ByteArray.push]
theorem str_7 (l : List Int) : strOfNums (l ++ [7]) = strOfNums l ++ ({ data := #[7] } : ByteArray) := by
  rw [str_snoc]
  apply ByteArray.ext
  simp [ByteArray.push]
section
variable {p y : Nat} {s s2 : NSt} {L : List Pc} {w : World}
theorem b_twin (H : Bth p s y s2 L w) (l : List Int) (a : Option Addr) (c : Nat) (hl : l.length ≤ 1000000) (hr : RdB w a l) (hn : a = none → c = 0) :
    Calls Try.prog 38 #[.slice a l.length c] w fun e w' => ∃ a' c', e = .returned (.slice a' l.length c') ∧ Bth p s y s2 (.own 5 1 (.slice a' l.length c') l.length (bv l) :: L) w' := by
  obtain ⟨N, hN, m, xs, h1, ok, hF⟩ := H
  refine (twin_c l a c w h1 hl hr hn).mono ?_
  rintro e w' ⟨a', c', rfl, h⟩
  refine ⟨a', c', rfl, N, hN, m, xs, h.perm ?_, ok, hF⟩
  exact (List.perm_middle.symm.trans ((List.perm_middle.symm).append_left _))
theorem b_send1 (H : Bth p s y s2 L w) (ht : Tok 900000000 s.t) {a b : Int} (ha : okI a) (hb : okI b) (sa : Option Addr) (sc : Nat) (bs : List Int) (hr : ∀ V, SL V L → RdB V sa bs ∧ (sa = none → sc = 0)) :
    Calls Try.prog 11 #[ptrV p, .int .i64 a, .int .i64 b, .slice sa bs.length sc] w fun e w' => e = .returned (.int .i64 (s.send a b bs).1) ∧ Bth p (s.send a b bs).2 y s2 L w' := by
  obtain ⟨N, hN, H⟩ := H
  refine (send_c H (ht.mono (by omega)) ha hb sa sc bs fun V h => hr V (h.re (re_right N _))).mono ?_
  rintro e w' ⟨h1, h2⟩
  exact ⟨h1, N, hN, h2⟩
theorem b_send2 (H : Bth p s y s2 L w) (ht : Tok 900000000 s2.t) (hA : allF s2.n s2.F ≤ 1048576) (a b : Int) (sa : Option Addr) (sc : Nat) (bs : List Int) (hbl : bs.length ≤ 1100) (hr : ∀ V, SL V L → RdB V sa bs ∧ (sa = none → sc = 0)) :
    Calls Try.prog 39 #[ptrV y, .int .i64 a, .int .i64 b, .slice sa bs.length sc] w fun e w' => e = .returned (.int .i64 (s2.send a b bs).1) ∧ Bth p s y (s2.send a b bs).2 L w' := by
  obtain ⟨N, hN, H⟩ := H.rf
  refine (rf_send H ht hA a b sa sc bs hbl fun V h => hr V (h.re (re_right N _))).mono ?_
  rintro e w' ⟨h1, h2⟩
  exact ⟨h1, Bth.of hN h2⟩
end
end Go.Proofs.Ytnkahibddhchlaa
