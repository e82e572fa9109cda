/- The reader: Text. -/
import Derived.Test.YtilpkfgdlehmpaaDoorRdrW
namespace Go.Proofs.YtilpkfgdlehmpaaDoor
open Go.RowKit Go.Shelf
set_option linter.unusedVariables false

section
variable {v : Value} {n : Nat} {xs : List Value} {r : Nat} {st : RdSt18} {L : List Pc} {w : World}
theorem RdY.take {a : Option Addr} {bs : List Int} (h : RdY w a bs) (k : Nat) : RdB w a (bs.take k) := by
  intro i hi
  rw [List.length_take] at hi
  obtain ⟨b, o, e, g⟩ := h i (by omega)
  refine ⟨b, o, e, ?_⟩
  rw [g]
  dsimp only
  rw [List.getD_eq_getElem?_getD, List.getElem?_take, if_pos (by omega), List.getElem?_eq_getElem (by omega)]
  rfl

set_option maxRecDepth 100000 in
set_option maxHeartbeats 8000000 in
theorem text_c (H : RdrAt v n xs r st L w) {m : Int} (hm : 0 ≤ m ∧ m ≤ 1000000) :
    Calls Tryd.prog 48 #[ptrV r, .int .i64 m] w fun e w' => ∃ a c, e = .returned (.slice a (textK st m).1.length c) ∧ RdrAt v n xs r (textK st m).2 (.own 5 1 (.slice a (textK st m).1.length c) (textK st m).1.length (bv (textK st m).1) :: L) w' := by
  have hno := Lib.hid (rnone_c H)
  have hsm := Lib.hid (small_c H hm)
  have hb0 := (upK_le (st := st) hm.1 H.bytes).1
  have hnil2 : Hid (∀ V st' M, RdrAt v n xs r st' M V → RdrAt v n xs r st' (.own 5 1 (.slice none 0 0) 0 [] :: M) V) := Lib.hid fun V st' M ⟨a, c, h, h1⟩ => ⟨a, c, (h.pure (q := .own 5 1 (.slice none 0 0) 0 []) (OwnK.nil _ _ _ _) (fun b h => by cases h)).re (.step (.there (.here _ _)) (.step (.there (.here _ _)) (.same _))), h1⟩
  by_cases hl : st.2 = true
  · have e1 : textK st m = ([], st) := by unfold textK; rw [if_pos hl]
    rw [e1]
    have hf := Lib.hid (hnil2.out _ _ _ H)
    rw [hl] at hno
    clear H hsm hnil2 e1 hl
    unfold ptrV at *
    go_enter Tryd.func48, Tryd.ntmps48
    go_wp2_with fail
    refine hno.out.mono ?_
    rintro e w2 ⟨rfl, rfl⟩
    clear hno
    go_wp2_with fail
    go_ret
    exact ⟨none, 0, rfl, hf.out⟩
  have hlf : st.2 = false := by simpa using hl
  rw [hlf] at hno
  obtain ⟨a, c, HS, ⟨hlc, hnil⟩, hl6, hby, hrd⟩ := H
  have c0 := HS.cell (b := r) (o := 0) (.here _ _) rfl
  obtain ⟨z, hz⟩ : ∃ z, (upK st m).1 = z := ⟨_, rfl⟩
  obtain ⟨s1, hs1⟩ : ∃ s1, (upK st m).2 = s1 := ⟨_, rfl⟩
  have etx : textK st m = if s1.2 = true ∨ (s1.1.length : Int) < z then ([], (st.1, true)) else (s1.1.take z.toNat, (s1.1.drop z.toNat, false)) := by
    unfold textK
    rw [if_neg hl, hs1, hz]
  rw [hz, hs1] at hsm
  rw [hz] at hb0
  by_cases hbad : s1.2 = true ∨ (s1.1.length : Int) < z
  · rw [if_pos hbad] at etx
    rw [etx]
    have hfin : Hid (∀ V, RdrAt v n xs r s1 L V → RdrAt v n xs r (st.1, true) (.own 5 1 (.slice none 0 0) 0 [] :: L) ((V.setCell ⟨r, 0, none⟩ (.slice a st.1.length c)).setCell ⟨r, 2, none⟩ (.bool true))) := Lib.hid fun V ⟨a2, c2, h, _⟩ => hnil2.out _ _ _ ⟨a, c, (h.setCell 0 (.slice a st.1.length c)).setCell 2 (.bool true), ⟨hlc, hnil⟩, hl6, hby, hrd⟩
    clear HS hlf hl hz hs1 etx hrd hby hnil2 hnil
    generalize st.1.length = N at *
    unfold ptrV at *
    go_enter Tryd.func48, Tryd.ntmps48
    go_wp2_with fail
    refine hno.out.mono ?_
    rintro e w2 ⟨rfl, rfl⟩
    clear hno
    go_wp2_with fail
    refine hsm.out.mono ?_
    rintro e w2 ⟨rfl, H2⟩
    have hf := Lib.hid (hfin.out _ H2)
    obtain ⟨a2, d2, HS2, ⟨hlc2, -⟩, -⟩ := H2
    have c0 := HS2.cell (b := r) (o := 0) (.here _ _) rfl
    have c2 := HS2.cell (b := r) (o := 2) (.here _ _) rfl
    have f0 := HS2.free (b := r) (.here _ _) 0
    have f2 := HS2.free (b := r) (.here _ _) 2
    clear hsm hfin HS2
    obtain ⟨b1, l1⟩ := s1
    dsimp only at *
    generalize b1.length = N1 at *
    cases l1 with
    | true =>
      clear hbad
      go_wp2_with fail
      go_ret
      exact ⟨none, 0, rfl, hf.out⟩
    | false =>
      have hlt : (N1 : Int) < z := hbad.resolve_left (by decide)
      clear hbad
      go_wp2_with fail
      go_ret
      exact ⟨none, 0, rfl, hf.out⟩
  · rw [if_neg hbad] at etx
    rw [etx]
    obtain ⟨hb1, hb2⟩ := not_or.1 hbad
    have hs1f : s1.2 = false := by simpa using hb1
    obtain ⟨Z, rfl⟩ := Int.eq_ofNat_of_zero_le hb0
    have hZ : Z ≤ s1.1.length := by omega
    rw [Int.toNat_natCast]
    have htl : (s1.1.take Z).length = Z := by rw [List.length_take]; omega
    have hdl : Hid ((s1.1.drop Z).length = s1.1.length - Z) := Lib.hid (by rw [List.length_drop])
    rw [htl]
    have htl' := Lib.hid htl
    clear HS hlf hl hz hs1 etx hrd hby hnil2 hnil hbad hb1 hb2 htl hb0
    generalize st.1.length = N at *
    unfold ptrV at *
    go_enter Tryd.func48, Tryd.ntmps48
    go_wp2_with fail
    refine hno.out.mono ?_
    rintro e w2 ⟨rfl, rfl⟩
    clear hno
    go_wp2_with fail
    refine hsm.out.mono ?_
    rintro e w2 ⟨rfl, H2⟩
    obtain ⟨a2, d2, HS2, ⟨hlc2, hni2⟩, hl62, hby2, hrd2⟩ := H2
    have c0 := HS2.cell (b := r) (o := 0) (.here _ _) rfl
    have c2 := HS2.cell (b := r) (o := 2) (.here _ _) rfl
    have hcl := Lib.hid (clone_c (s1.1.take Z) a2 d2 w2 HS2 (by rw [htl'.out]; omega) ((hrd2 _ _ (HS2.re (.step (.there (.here _ _)) (.same _)))).take Z) hni2)
    rw [htl'.out] at hcl
    rw [hs1f] at c2
    have hfin : Hid (∀ V a3 c3 a' c', (s1.1.length - Z ≤ c' ∧ (a' = none → c' = 0)) → (s1.1.length - Z = 0 ∨ ∃ ad : Addr, a2 = some ad ∧ a' = some (ad.add Z)) → SL V (.own 5 1 (.slice a3 Z c3) Z (bv (s1.1.take Z)) :: .blk r [.slice a2 s1.1.length d2, .bool true, .bool s1.2] 105 :: .own 5 1 v n xs :: L) → RdrAt v n xs r (s1.1.drop Z, false) (.own 5 1 (.slice a3 Z c3) Z (bv (s1.1.take Z)) :: L) (V.setCell ⟨r, 0, none⟩ (.slice a' (s1.1.length - Z) c'))) := Lib.hid fun V a3 c3 a' c' hc' ha' h => by
      have h5 := (h.re (.step (.there (.here _ _)) (.step (.there (.here _ _)) (.step (.here _ _) (.same _))))).setCell 0 (.slice a' (s1.1.length - Z) c')
      rw [hs1f] at h5
      refine ⟨a', c', ?_, ⟨by dsimp only; rw [hdl.out]; exact hc'.1, hc'.2⟩, by dsimp only; rw [hdl.out]; omega, fun x hx => hby2 x (List.mem_of_mem_drop hx), fun V M hV i hi => ?_⟩
      · dsimp only
        rw [hdl.out]
        exact h5
      · dsimp only at hi
        rw [hdl.out] at hi
        rcases ha' with h | ⟨ad, rfl, rfl⟩
        · omega
        · obtain ⟨b1, o1, e, g⟩ := hrd2 V M hV (Z + i) (by omega)
          cases e
          refine ⟨b1, o1 + Z, by first | rw [Addr.add_lit] | simp [Addr.add], ?_⟩
          rw [Nat.add_assoc, g, List.getElem_drop]
    have hcell : Hid (∀ V a3 c3, SL V (.own 5 1 (.slice a3 Z c3) Z (bv (s1.1.take Z)) :: .blk r [.slice a2 s1.1.length d2, .bool true, .bool s1.2] 105 :: .own 5 1 v n xs :: L) → V.cell? ⟨r, 0, none⟩ = some (.slice a2 s1.1.length d2) ∧ V.frozen? ⟨r, 0, none⟩ = false) := Lib.hid fun V a3 c3 h => ⟨h.cell (b := r) (o := 0) (.there (.here _ _)) rfl, h.free (b := r) (.there (.here _ _)) 0⟩
    clear hsm HS2 hby2 hrd2 hs1f htl' hdl
    generalize s1.1.length = N1 at *
    have hZ2 : (Z : Int) ≤ (N1 : Int) := by omega
    have hZd : Z ≤ d2 := by omega
    cases a2 with
    | none =>
      have hd0 := hni2 rfl
      subst hd0
      obtain rfl : N1 = 0 := by omega
      obtain rfl : Z = 0 := by omega
      go_wp2_with fail
      refine hcl.out.mono ?_
      rintro e w3 ⟨a3, c3, rfl, H3⟩
      obtain ⟨k0, k1⟩ := hcell.out _ _ _ H3
      have hf := Lib.hid (hfin.out _ _ _ none 0 ⟨by omega, fun _ => rfl⟩ (.inl (by first | rfl | trivial)) H3)
      clear hcl hcell hfin H3 c0 c2
      go_wp2_with fail
      go_ret
      exact ⟨_, _, rfl, hf.out⟩
    | some ad =>
      obtain ⟨b0, o0, sp⟩ := ad
      go_wp2_with fail
      refine hcl.out.mono ?_
      rintro e w3 ⟨a3, c3, rfl, H3⟩
      obtain ⟨k0, k1⟩ := hcell.out _ _ _ H3
      have hfin' := Lib.hid (fun a' c' h1 h2 => hfin.out _ _ _ a' c' h1 h2 H3)
      clear hcl hcell hfin H3 c0 c2
      by_cases hck : d2 = Z
      · have hf := Lib.hid (hfin'.out (some ⟨b0, o0, sp⟩) 0 ⟨by omega, fun h => by cases h⟩ (.inl (by omega)))
        have h00 : N1 - Z = 0 := by omega
        rw [h00] at hf
        subst hck
        go_wp2_with fail
        go_ret
        exact ⟨_, _, rfl, hf.out⟩
      · have hf := Lib.hid (hfin'.out (some (Addr.add ⟨b0, o0, sp⟩ Z)) (d2 - Z) ⟨by omega, fun h => by cases h⟩ (.inr ⟨_, rfl, rfl⟩))
        go_wp2_with fail
        go_ret
        exact ⟨_, _, rfl, hf.out⟩
end
end Go.Proofs.YtilpkfgdlehmpaaDoor
