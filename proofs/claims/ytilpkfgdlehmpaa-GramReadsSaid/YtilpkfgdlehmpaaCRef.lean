/- The walks of mullionref04.Seal and Open: what they compute is 'sealed', 'opened'. -/
import Derived.Test.YtilpkfgdlehmpaaCSeal
namespace Go.Proofs.Ytilpkfgdlehmpaa.Crc
open Go.RowKit
set_option linter.unusedVariables false

theorem sumB_iff (s : BitVec 32) (x0 x1 x2 x3 : BitVec 8) : sumB s = [x0, x1, x2, x3] ↔ U x0 + 256 * U x1 + 65536 * U x2 + 16777216 * U x3 = U s := by
  have h0 := x0.isLt; have h1 := x1.isLt; have h2 := x2.isLt; have h3 := x3.isLt; have hs := s.isLt
  have e0 : (s.setWidth 8).toNat = s.toNat % 256 := by rw [BitVec.toNat_setWidth]
  have e1 : ((s >>> 8).setWidth 8).toNat = s.toNat / 256 % 256 := by rw [BitVec.toNat_setWidth, BitVec.toNat_ushiftRight, Nat.shiftRight_eq_div_pow]
  have e2 : ((s >>> 16).setWidth 8).toNat = s.toNat / 65536 % 256 := by rw [BitVec.toNat_setWidth, BitVec.toNat_ushiftRight, Nat.shiftRight_eq_div_pow]
  have e3 : ((s >>> 24).setWidth 8).toNat = s.toNat / 16777216 % 256 := by rw [BitVec.toNat_setWidth, BitVec.toNat_ushiftRight, Nat.shiftRight_eq_div_pow]
  unfold U
  constructor
  · intro h
    simp only [sumB, List.cons.injEq, and_true] at h
    obtain ⟨a, b, c, d⟩ := h
    rw [← a, ← b, ← c, ← d, e0, e1, e2, e3]
    omega
  · intro h
    simp only [sumB, List.cons.injEq, and_true]
    exact ⟨BitVec.eq_of_toNat_eq (by omega), BitVec.eq_of_toNat_eq (by omega), BitVec.eq_of_toNat_eq (by omega), BitVec.eq_of_toNat_eq (by omega)⟩

theorem drop_four (bs : List (BitVec 8)) (k : Nat) (h : bs.length = k + 4) : bs.drop k = [bs.getD (k + 0) 0, bs.getD (k + 1) 0, bs.getD (k + 2) 0, bs.getD (k + 3) 0] := by
  apply List.ext_getElem
  · simp [h]
  · intro i h1 h2
    have hi : i < 4 := by simpa using h2
    rw [List.getElem_drop]
    have hg : ∀ j, (hj : j < bs.length) → bs[j] = bs.getD j 0 := fun j hj => by simp [List.getD_eq_getElem?_getD, List.getElem?_eq_getElem hj]
    rw [hg]
    rcases (by omega : i = 0 ∨ i = 1 ∨ i = 2 ∨ i = 3) with rfl | rfl | rfl | rfl <;> rfl

theorem word_iff (bs : List (BitVec 8)) (k : Nat) (h : bs.length = k + 4) :
    sealed (bs.take k) = bs ↔ U (bs.getD (k + 0) 0) + 256 * U (bs.getD (k + 1) 0) + 65536 * U (bs.getD (k + 2) 0) + 16777216 * U (bs.getD (k + 3) 0) = U (sumOf (bs.take k)) := by
  rw [← sumB_iff, ← drop_four bs k h]
  have ht := List.take_append_drop k bs
  constructor
  · intro hs
    rw [sealed] at hs
    have := ht.trans hs.symm
    exact (List.append_cancel_left this).symm
  · intro hs
    rw [sealed, hs, ht]

theorem refOpen_c (a : Option Addr) (n cap : Nat) (bs : List (BitVec 8)) (w : World) (hl : bs.length = n) (hm : bs.length ≤ 6000) (hcap : n ≤ cap) (hcm : cap ≤ 9223372036854775807) (hc : RdB w a bs) :
    Calls Try.prog 17 #[.slice a n cap] w (GivesBE w 5 (opened bs) (openE bs)) := by
  subst hl
  have hc' := Lib.hid hc
  by_cases h4 : 4 ≤ bs.length
  · obtain ⟨b, o, rfl, -⟩ := hc 0 (by omega)
    clear hc
    obtain ⟨k, hk⟩ : ∃ k, bs.length = k + 4 := ⟨bs.length - 4, by omega⟩
    have hk' := Lib.hid hk
    have hkl : ((bs.length : Int) - 4) = (k : Int) := by omega
    have htk : (bs.take k).length = k := by rw [List.length_take]; omega
    have htk' := Lib.hid htk
    have cells : ∀ i, i < 4 → w.cell? ⟨b, o + (k + i), none⟩ = some (.int .u8 (U (bs.getD (k + i) 0))) := fun i hi => by
      obtain ⟨b', o', h, hx⟩ := hc'.out (k + i) (by omega)
      cases h
      exact hx
    have c0 := cells 0 (by omega)
    have c1 := cells 1 (by omega)
    have c2 := cells 2 (by omega)
    have c3 := cells 3 (by omega)
    clear hk htk cells
    rw [Nat.add_zero] at c0
    generalize hx0 : bs.getD (k + 0) 0 = x0 at c0
    generalize hx1 : bs.getD (k + 1) 0 = x1 at c1
    generalize hx2 : bs.getD (k + 2) 0 = x2 at c2
    generalize hx3 : bs.getD (k + 3) 0 = x3 at c3
    have hx' := Lib.hid (And.intro hx0 (And.intro hx1 (And.intro hx2 hx3)))
    clear hx0 hx1 hx2 hx3
    have p0 := U_nn x0; have p1 := U_nn x1; have p2 := U_nn x2; have p3 := U_nn x3
    have q0 := U_lt8 x0; have q1 := U_lt8 x1; have q2 := U_lt8 x2; have q3 := U_lt8 x3
    have i0 : 0 ≤ (k : Int) := by omega
    have i1 : (k : Int) + 3 < (bs.length : Int) := by omega
    go_enter Try.func17, Try.ntmps17
    go_wp2_with fail
    go_quiet (fail)
    go_wp2_with fail
    refine (refSum_c _ k cap (cOf (bs.take k)) _ (by omega) (Rd.no (Rd.congr (Rd.mono hc'.out (by omega)) fun i hi => by simp [cOf, List.getD_eq_getElem?_getD, hi]) ((Kp.refl _ _).drewN _))).mono ?_
    rintro e w' ⟨rfl, rfl⟩
    go_wp2_with fail
    · have hne : (U x0 + 256 * U x1 + 65536 * U x2 + 16777216 * U x3 != U (more (0#32) (cOf (List.take k bs)) k)) = true := by assumption
      have hs : ¬ sealed (bs.take k) = bs := by
        rw [word_iff bs k hk'.out, hx'.out.1, hx'.out.2.1, hx'.out.2.2.1, hx'.out.2.2.2, sumOf, htk'.out]
        simpa using hne
      have hkk : bs.length - 4 = k := by have := hk'.out; omega
      go_ret2
      refine ⟨_, by rw [show openE bs = 40 from by simp only [openE, hkk]; rw [if_neg (fun h => hs h.2)]]; rfl, ?_, (Kp.refl _ _).drewN _⟩
      rw [show opened bs = [] from by simp only [opened, hkk]; rw [if_neg (fun h => hs h.2)]]
      exact Own.nil _ _ _
    · have hne : (U x0 + 256 * U x1 + 65536 * U x2 + 16777216 * U x3 != U (more (0#32) (cOf (List.take k bs)) k)) = false := by assumption
      have hs : sealed (bs.take k) = bs := by
        rw [word_iff bs k hk'.out, hx'.out.1, hx'.out.2.1, hx'.out.2.2.1, hx'.out.2.2.2, sumOf, htk'.out]
        simpa using hne
      have hkk : bs.length - 4 = k := by have := hk'.out; omega
      have e1' := Lib.hid (show opened bs = bs.take k from by simp only [opened, hkk]; rw [if_pos ⟨h4, hs⟩])
      have e2' := Lib.hid (show openE bs = 0 from by simp only [openE, hkk]; rw [if_pos ⟨h4, hs⟩])
      clear hs hkk hne
      refine (twin_c _ k cap (bs.take k) _ htk'.out (by have := htk'.out; omega) (by simp) (Rd.no (hc'.out.take k (by have := hk'.out; omega)) ((Kp.refl _ _).drewN _))).mono ?_
      rintro e w3 ⟨v3, rfl, ho3, hk3, -⟩
      have ho3' := Lib.hid ho3
      have hk3' := Lib.hid hk3
      clear ho3 hk3
      go_wp2_with fail
      go_ret2
      exact ⟨v3, by rw [e2'.out]; rfl, by rw [e1'.out]; exact ho3'.out, ((Kp.refl _ _).drewN _).trans hk3'.out⟩
  · have h5 : (bs.length : Int) - 4 < 0 := by omega
    have e1 : opened bs = [] := by simp [opened, h4]
    have e2 : openE bs = 40 := by simp [openE, h4]
    have e1' := Lib.hid e1
    have e2' := Lib.hid e2
    clear hc e1 e2
    go_enter Try.func17, Try.ntmps17
    go_wp2
    go_ret2
    exact ⟨_, by rw [e2'.out]; rfl, by rw [e1'.out]; exact Own.nil _ _ _, Kp.refl _ _⟩

end Go.Proofs.Ytilpkfgdlehmpaa.Crc
