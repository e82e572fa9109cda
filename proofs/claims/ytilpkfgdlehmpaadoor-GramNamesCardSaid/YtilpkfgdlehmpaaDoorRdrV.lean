/- The reader: Uint, Small, End. -/
import Derived.Test.YtilpkfgdlehmpaaDoorRdrU
namespace Go.Proofs.YtilpkfgdlehmpaaDoor
open Go.RowKit Go.Shelf
set_option linter.unusedVariables false

section
variable {v : Value} {n : Nat} {xs : List Value} {r : Nat} {st : RdSt18} {L : List Pc} {w : World}
theorem uint_c (H : RdrAt v n xs r st L w) : Calls Tryd.prog 47 #[ptrV r] w fun e w' => e = .returned (.int .u64 (upK st most64).1) ∧ RdrAt v n xs r (upK st most64).2 L w' := by
  have hu := Lib.hid (upto_c H most64)
  clear H
  unfold ptrV most64 at *
  go_enter Tryd.func47, Tryd.ntmps47
  go_wp2_with fail
  refine hu.out.mono ?_
  rintro e w2 ⟨rfl, H2⟩
  have hH := Lib.hid H2
  clear hu H2
  go_wp2_with fail
  go_ret
  exact ⟨rfl, hH.out⟩
theorem RdrAt.bytes (H : RdrAt v n xs r st L w) : ∀ x ∈ st.1, byteK x := by obtain ⟨a, c, -, -, -, h, -⟩ := H; exact h
theorem small_c (H : RdrAt v n xs r st L w) {m : Int} (hm : 0 ≤ m ∧ m ≤ 1000000) : Calls Tryd.prog 46 #[ptrV r, .int .i64 m] w fun e w' => e = .returned (.int .i64 (upK st m).1) ∧ RdrAt v n xs r (upK st m).2 L w' := by
  have hu := Lib.hid (upto_c H m)
  have hb := upK_le (st := st) hm.1 H.bytes
  clear H
  generalize (upK st m).1 = z at *
  generalize (upK st m).2 = st2 at *
  obtain ⟨hm0, hm1⟩ := hm
  obtain ⟨hz0, hz1⟩ := hb
  unfold ptrV at *
  go_enter Tryd.func46, Tryd.ntmps46
  go_wp2_with fail
  refine hu.out.mono ?_
  rintro e w2 ⟨rfl, H2⟩
  have hH := Lib.hid H2
  clear hu H2
  go_wp2_with fail
  go_ret
  exact ⟨rfl, hH.out⟩
theorem end_c (H : RdrAt v n xs r st L w) : Calls Tryd.prog 49 #[ptrV r] w fun e w' => e = .returned (.int .i64 (if endK st then 0 else 50)) ∧ w = w' := by
  obtain ⟨a, c, HS, ⟨hlc, hnil⟩, hl6, hby, hrd⟩ := H
  obtain ⟨bs, lost⟩ := st
  dsimp only at *
  have c0 := HS.cell (b := r) (o := 0) (.here _ _) rfl
  have c1 := HS.cell (b := r) (o := 1) (.here _ _) rfl
  have c2 := HS.cell (b := r) (o := 2) (.here _ _) rfl
  obtain ⟨E, hE⟩ : ∃ E : Int, (if endK (bs, lost) then 0 else 50) = E := ⟨_, rfl⟩
  rw [hE]
  have hE1 : Hid (lost = true → E = 50) := Lib.hid fun h => by rw [← hE, if_neg]; rintro ⟨h1, -⟩; rw [show lost = false from h1] at h; cases h
  have hE2 : Hid (0 < bs.length → E = 50) := Lib.hid fun h => by
    rw [← hE, if_neg]
    rintro ⟨-, h1⟩
    rw [show bs = [] from h1] at h
    cases h
  have hE3 : Hid (lost = false → bs.length = 0 → E = 0) := Lib.hid fun h h1 => by rw [← hE, if_pos]; exact ⟨h, List.eq_nil_of_length_eq_zero h1⟩
  clear HS hrd hby hE
  generalize bs.length = N at *
  unfold ptrV at *
  cases lost with
  | true =>
    rw [hE1.out rfl]
    clear hE1 hE2 hE3
    go_enter Tryd.func49, Tryd.ntmps49
    go_wp2_with fail
    go_ret
    first | exact ⟨rfl, rfl⟩ | rfl
  | false =>
    by_cases hN : 0 < N
    · rw [hE2.out hN]
      clear hE1 hE2 hE3
      go_enter Tryd.func49, Tryd.ntmps49
      go_wp2_with fail
      go_ret
      first | exact ⟨rfl, rfl⟩ | rfl
    · obtain rfl : N = 0 := by omega
      rw [hE3.out rfl rfl]
      clear hE1 hE2 hE3 hN
      go_enter Tryd.func49, Tryd.ntmps49
      go_wp2_with fail
      go_ret
      first | exact ⟨rfl, rfl⟩ | rfl
end
end Go.Proofs.YtilpkfgdlehmpaaDoor
