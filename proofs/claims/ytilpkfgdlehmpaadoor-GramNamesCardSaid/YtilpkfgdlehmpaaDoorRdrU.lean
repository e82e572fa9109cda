/- The reader: none, upto, Uint, Small. -/
import Derived.Test.YtilpkfgdlehmpaaDoorRdr
import Derived.Test.YtilpkfgdlehmpaaDoorGramL
namespace Go.Proofs.YtilpkfgdlehmpaaDoor
open Go.RowKit Go.Shelf
set_option linter.unusedVariables false

/-- The reader at r holds st: bytes that are left, in a clone of its own, and whether it is spoilt. -/
def RdrAt (v : Value) (n : Nat) (xs : List Value) (r : Nat) (st : RdSt18) (L : List Pc) (w : World) : Prop := ∃ (a : Option Addr) (c : Nat),
  SL w (.blk r [.slice a st.1.length c, .bool true, .bool st.2] 105 :: .own 5 1 v n xs :: L) ∧ (st.1.length ≤ c ∧ (a = none → c = 0)) ∧ st.1.length ≤ 6000 ∧ (∀ x ∈ st.1, byteK x) ∧ (∀ V M, SL V (.own 5 1 v n xs :: M) → RdY V a st.1)

section
variable {v : Value} {n : Nat} {xs : List Value} {r : Nat} {st : RdSt18} {L : List Pc} {w : World}
theorem rnone_c (H : RdrAt v n xs r st L w) : Calls Tryd.prog 66 #[ptrV r] w fun e w' => e = .returned (.bool st.2) ∧ w = w' := by
  obtain ⟨a, c, HS, -⟩ := H
  have c1 := HS.cell (b := r) (o := 1) (.here _ _) rfl
  have c2 := HS.cell (b := r) (o := 2) (.here _ _) rfl
  have hfine : Hid (Calls Tryd.prog 51 #[ptrV r] w fun e w' => e = .returned (.bool (!st.2)) ∧ w = w') := Lib.hid (by
    clear HS
    generalize st.2 = b at *
    unfold ptrV
    go_enter Tryd.func51, Tryd.ntmps51
    go_wp2_with fail
    go_ret
    exact ⟨rfl, rfl⟩)
  clear HS c1 c2
  generalize st.2 = b at *
  unfold ptrV at *
  go_enter Tryd.func66, Tryd.ntmps66
  go_wp2_with fail
  refine hfine.out.mono ?_
  rintro e w2 ⟨rfl, rfl⟩
  clear hfine
  cases b with
  | false =>
    go_wp2_with fail
    go_ret
    first | exact ⟨rfl, rfl⟩ | rfl
  | true =>
    go_wp2_with fail
    go_ret
    first | exact ⟨rfl, rfl⟩ | rfl

set_option maxRecDepth 100000 in
set_option maxHeartbeats 8000000 in
theorem upto_c (H : RdrAt v n xs r st L w) (m : Int) : Calls Tryd.prog 65 #[ptrV r, .int .u64 m] w fun e w' => e = .returned (.int .u64 (upK st m).1) ∧ RdrAt v n xs r (upK st m).2 L w' := by
  have hno := Lib.hid (rnone_c H)
  have H0 := Lib.hid H
  obtain ⟨a, c, HS, ⟨hlc, hnil⟩, hl6, hby, hrd⟩ := H
  obtain ⟨bs, lost⟩ := st
  dsimp only at *
  have c0 := HS.cell (b := r) (o := 0) (.here _ _) rfl
  have f0 := HS.free (b := r) (.here _ _) 0
  have c2 := HS.cell (b := r) (o := 2) (.here _ _) rfl
  have f2 := HS.free (b := r) (.here _ _) 2
  have hnum := Lib.hid (number_c c0 (hrd _ _ (HS.re (.step (.there (.here _ _)) (.same _)))) rfl hlc hl6 hby)
  cases lost with
  | true =>
    rw [upK_lost rfl]
    clear HS hnum c0 f0 f2 hrd
    unfold ptrV at *
    go_enter Tryd.func65, Tryd.ntmps65
    go_wp2_with fail
    refine hno.out.mono ?_
    rintro e w2 ⟨rfl, rfl⟩
    clear hno
    go_wp2_with fail
    go_ret
    exact ⟨rfl, H0.out⟩
  | false =>
    have hlo : Hid (RdrAt v n xs r (bs, true) L (w.setCell ⟨r, 2, none⟩ (.bool true))) := Lib.hid ⟨a, c, HS.setCell 2 (.bool true), ⟨hlc, hnil⟩, hl6, hby, hrd⟩
    cases hF : numF 0 0 bs with
    | none =>
      rw [upK_none rfl hF]
      have e1 : numR bs = (0, 0) := by unfold numR; rw [hF]
      rw [e1] at hnum
      clear HS H0 hrd hby hF e1
      unfold ptrV at *
      go_enter Tryd.func65, Tryd.ntmps65
      go_wp2_with fail
      refine hno.out.mono ?_
      rintro e w2 ⟨rfl, rfl⟩
      clear hno
      go_wp2_with fail
      refine hnum.out.mono ?_
      rintro e w2 ⟨rfl, rfl⟩
      clear hnum
      go_wp2_with fail
      go_ret
      exact ⟨rfl, hlo.out⟩
    | some q =>
      obtain ⟨z, k⟩ := q
      rw [upK_some rfl hF]
      have e1 : numR bs = (z, (k : Int)) := by unfold numR; rw [hF]
      rw [e1] at hnum
      have hk := numF_size bs hF (by omega)
      have hk0 : ((k : Int) == 0) = false := by simp; omega
      by_cases hm : m < z
      · rw [if_pos hm]
        have hmb : decide (m < z) = true := by simpa using hm
        clear HS H0 hrd hby hF e1
        unfold ptrV at *
        go_enter Tryd.func65, Tryd.ntmps65
        go_wp2_with fail
        refine hno.out.mono ?_
        rintro e w2 ⟨rfl, rfl⟩
        clear hno
        go_wp2_with fail
        refine hnum.out.mono ?_
        rintro e w2 ⟨rfl, rfl⟩
        clear hnum
        go_wp2_with fail
        go_ret
        exact ⟨rfl, hlo.out⟩
      · rw [if_neg hm]
        have hmb : decide (m < z) = false := by simpa using hm
        have hkl : k ≤ bs.length := by omega
        have hdl : Hid ((bs.drop k).length = bs.length - k) := Lib.hid (by rw [List.length_drop])
        obtain ⟨b0, o0, rfl, -⟩ := (hrd _ _ (HS.re (.step (.there (.here _ _)) (.same _)))) 0 (by omega)
        have hfin : Hid (∀ a' c', bs.length - k ≤ c' ∧ (a' = none → c' = 0) → (bs.length - k = 0 ∨ a' = some ⟨b0, o0 + k, none⟩) → RdrAt v n xs r (bs.drop k, false) L (w.setCell ⟨r, 0, none⟩ (.slice a' (bs.length - k) c'))) := Lib.hid fun a' c' hc' ha' => ⟨a', c', by
          dsimp only
          rw [hdl.out]
          exact HS.setCell 0 _, ⟨by dsimp only; rw [hdl.out]; exact hc'.1, hc'.2⟩, by dsimp only; rw [hdl.out]; omega, fun x hx => hby x (List.mem_of_mem_drop hx), fun V M hV i hi => by
          rw [hdl.out] at hi
          rcases ha' with h | rfl
          · omega
          · obtain ⟨b1, o1, e, g⟩ := hrd V M hV (k + i) (by omega)
            cases e
            refine ⟨_, _, rfl, ?_⟩
            rw [Nat.add_assoc, g, List.getElem_drop]⟩
        obtain ⟨N, hN⟩ : ∃ N, bs.length = N := ⟨_, rfl⟩
        rw [hN] at hfin hlc hl6 hkl c0 hk
        clear HS H0 hrd hby hF e1 hdl hlo hN
        unfold ptrV at *
        go_enter Tryd.func65, Tryd.ntmps65
        go_wp2_with fail
        refine hno.out.mono ?_
        rintro e w2 ⟨rfl, rfl⟩
        clear hno
        go_wp2_with fail
        refine hnum.out.mono ?_
        rintro e w2 ⟨rfl, rfl⟩
        clear hnum
        by_cases hck : c = k
        · have hf := Lib.hid (hfin.out (some ⟨b0, o0, none⟩) 0 ⟨by omega, fun h => by cases h⟩ (.inl (by omega)))
          subst hck
          go_wp2_with fail
          go_ret
          first | exact ⟨rfl, hf.out⟩ | (rw [show N - c = 0 by omega] at hf; exact ⟨rfl, hf.out⟩)
        · have hf := Lib.hid (hfin.out (some ⟨b0, o0 + k, none⟩) (c - k) ⟨by omega, fun h => by cases h⟩ (.inr rfl))
          go_wp2_with fail
          go_ret
          exact ⟨rfl, hf.out⟩
end
end Go.Proofs.YtilpkfgdlehmpaaDoor
