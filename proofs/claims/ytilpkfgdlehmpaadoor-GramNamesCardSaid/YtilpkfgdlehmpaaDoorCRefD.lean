/- The walks of mullionref04.Seal and Open: what they compute is 'sealed', 'opened'. -/
import Derived.Test.YtilpkfgdlehmpaaDoorCSeal
namespace Go.Proofs.YtilpkfgdlehmpaaDoor.Crc
open Go.RowKit
set_option linter.unusedVariables false

theorem refSeal_c (a : Option Addr) (n cap : Nat) (bs : List (BitVec 8)) (w : World) (hl : bs.length = n) (hm : bs.length ≤ 6000) (hn : a = none → cap = 0) (hc : RdB w a bs) :
    Calls Tryd.prog 34 #[.slice a n cap] w (GivesB w 5 (sealed bs) fun _ => True) := by
  subst hl
  have hc' := Lib.hid hc
  clear hc
  have h1 := U_nn (sumOf bs)
  have h2 := U_lt32 (sumOf bs)
  go_enter Tryd.func34, Tryd.ntmps34
  go_wp2_with fail
  refine (refSum_c a bs.length cap (cOf bs) w (by omega) hc'.out).mono ?_
  rintro e w' ⟨rfl, rfl⟩
  rw [show more 0#32 (cOf bs) bs.length = sumOf bs from rfl]
  go_wp2_with fail
  refine (twin_c a _ cap bs w rfl (by omega) hn hc'.out).mono ?_
  rintro e w1 ⟨v, rfl, ho, hk, -⟩
  have ho' := Lib.hid ho
  have hk' := Lib.hid hk
  have hsz := hk.size
  clear ho hk
  go_wp2_with (at_builtin; refine wpList_app rfl _ _ 23 rfl w.heap.size elemB _ rfl (ho'.out.no ((Kp.refl _ w1).alloc _)) (by simp; omega) [_, _, _, _] rfl rfl (rd_new _ _ _) (by simp [Value.oneCell']) (by simp [bv_length, maxLen]; omega) (by simp [bv_length]; omega) (by simp) ?_; intro v2 w2 ho2 hk2 hz; have ho2' := Lib.hid ho2; have hk2' := Lib.hid hk2; clear ho2 hk2 hz)
  go_ret
  refine ⟨v2, rfl, ?_, (hk'.out.alloc _).then hk2'.out (fun _ _ h => h) (fun i hi h => absurd (ho'.out.block h).1 (by omega)), trivial⟩
  have := ho2'.out
  rw [byte_0, byte_1, byte_2, byte_3] at this
  simpa [bv, sealed, sumB] using this

theorem sumB_iff (s : BitVec 32) (x0 x1 x2 x3 : BitVec 8) : sumB s = [x0, x1, x2, x3] ↔ U x0 + 256 * U x1 + 65536 * U x2 + 16777216 * U x3 = U s := by
  have h0 := x0.isLt; have h1 := x1.isLt; have h2 := x2.isLt; have h3 := x3.isLt; have hs := s.isLt
  have e0 : (s.setWidth 8).toNat = s.toNat % 256 := by rw [BitVec.toNat_setWidth]
  have e1 : ((s >>> 8).setWidth 8).toNat = s.toNat / 256 % 256 := by rw [BitVec.toNat_setWidth, BitVec.toNat_ushiftRight, Nat.shiftRight_eq_div_pow]
  have e2 : ((s >>> 16).setWidth 8).toNat = s.toNat / 65536 % 256 := by rw [BitVec.toNat_setWidth, BitVec.toNat_ushiftRight, Nat.shiftRight_eq_div_pow]
  have e3 : ((s >>> 24).setWidth 8).toNat = s.toNat / 16777216 % 256 := by rw [BitVec.toNat_setWidth, BitVec.toNat_ushiftRight, Nat.shiftRight_eq_div_pow]
  unfold U
  constructor
  · intro h
    simp only [sumB, List.cons.injEq, and_true] at h
    obtain ⟨a, b, c, d⟩ := h
    rw [← a, ← b, ← c, ← d, e0, e1, e2, e3]
    omega
  · intro h
    simp only [sumB, List.cons.injEq, and_true]
    exact ⟨BitVec.eq_of_toNat_eq (by omega), BitVec.eq_of_toNat_eq (by omega), BitVec.eq_of_toNat_eq (by omega), BitVec.eq_of_toNat_eq (by omega)⟩

theorem drop_four (bs : List (BitVec 8)) (k : Nat) (h : bs.length = k + 4) : bs.drop k = [bs.getD (k + 0) 0, bs.getD (k + 1) 0, bs.getD (k + 2) 0, bs.getD (k + 3) 0] := by
  apply List.ext_getElem
  · simp [h]
  · intro i h1 h2
    have hi : i < 4 := by simpa using h2
    rw [List.getElem_drop]
    have hg : ∀ j, (hj : j < bs.length) → bs[j] = bs.getD j 0 := fun j hj => by simp [List.getD_eq_getElem?_getD, List.getElem?_eq_getElem hj]
    rw [hg]
    rcases (by omega : i = 0 ∨ i = 1 ∨ i = 2 ∨ i = 3) with rfl | rfl | rfl | rfl <;> rfl

theorem word_iff (bs : List (BitVec 8)) (k : Nat) (h : bs.length = k + 4) :
    sealed (bs.take k) = bs ↔ U (bs.getD (k + 0) 0) + 256 * U (bs.getD (k + 1) 0) + 65536 * U (bs.getD (k + 2) 0) + 16777216 * U (bs.getD (k + 3) 0) = U (sumOf (bs.take k)) := by
  rw [← sumB_iff, ← drop_four bs k h]
  have ht := List.take_append_drop k bs
  constructor
  · intro hs
    rw [sealed] at hs
    have := ht.trans hs.symm
    exact (List.append_cancel_left this).symm
  · intro hs
    rw [sealed, hs, ht]

end Go.Proofs.YtilpkfgdlehmpaaDoor.Crc
