/- The reference's reader: upto. (Under way.) -/
import Derived.Test.YtilpkfgdlehmpaaRefV
namespace Go.Proofs.Ytilpkfgdlehmpaa
open Go.RowKit Go.Shelf
set_option linter.unusedVariables false

section
variable {a : Option Addr} {c : Nat} {B : List Int} {v : Value} {n : Nat} {xs : List Value} {r : Nat} {st : RdSt18} {L : List Pc} {w : World}
set_option maxRecDepth 100000 in
set_option maxHeartbeats 8000000 in
theorem rupto_c (H : RfrAt a c B v n xs r st L w) (m : Int) : Calls Try.prog 32 #[ptrV r, .int .u64 m] w fun e w' => e = .returned (.int .u64 (upK st m).1) ∧ RfrAt a c B v n xs r (upK st m).2 L w' := by
  have H0 := Lib.hid H
  obtain ⟨k, HS, ⟨hlc, hnil⟩, hl6, hk, hst, hby, hrd⟩ := H
  obtain ⟨bs, lost⟩ := st
  dsimp only at *
  cases lost with
  | true =>
    have c2 := HS.cell (b := r) (o := 2) (.here _ _) rfl
    rw [upK_lost rfl]
    clear HS hrd hby hst
    unfold ptrV at *
    go_enter Try.func32, Try.ntmps32
    go_wp2_with fail
    go_ret
    exact ⟨rfl, H0.out⟩
  | false =>
    have hfail : Hid (numF 0 0 bs = none → ∀ V, SL V (.blk r [.slice a B.length c, .int .i64 k, .bool false] 55 :: .own 5 1 v n xs :: L) → (upK (bs, false) m).1 = 0 ∧ RfrAt a c B v n xs r (upK (bs, false) m).2 L (V.setCell ⟨r, 2, none⟩ (.bool true))) := Lib.hid fun hF V h => by
      rw [upK_none rfl hF]
      exact ⟨rfl, k, h.setCell 2 (.bool true), ⟨hlc, hnil⟩, hl6, hk, hst, hby, hrd⟩
    have hgreat : Hid (∀ z q, numF 0 0 bs = some (z, q) → m < z → ∀ V, SL V (.blk r [.slice a B.length c, .int .i64 k, .bool false] 55 :: .own 5 1 v n xs :: L) → (upK (bs, false) m).1 = 0 ∧ RfrAt a c B v n xs r (upK (bs, false) m).2 L (V.setCell ⟨r, 2, none⟩ (.bool true))) := Lib.hid fun z q hF hm V h => by
      rw [upK_some rfl hF, if_pos hm]
      exact ⟨rfl, k, h.setCell 2 (.bool true), ⟨hlc, hnil⟩, hl6, hk, hst, hby, hrd⟩
    have hdone : Hid (∀ z (q : Nat), numF 0 0 bs = some (z, q) → ¬ m < z → ∀ V, SL V (.blk r [.slice a B.length c, .int .i64 k, .bool false] 55 :: .own 5 1 v n xs :: L) → (upK (bs, false) m).1 = z ∧ RfrAt a c B v n xs r (upK (bs, false) m).2 L (V.setCell ⟨r, 1, none⟩ (.int .i64 ((k + q : Nat) : Int)))) := Lib.hid fun z q hF hm V h => by
      rw [upK_some rfl hF, if_neg hm]
      have hq := numF_size bs hF (by omega)
      have hbl : bs.length = B.length - k := by rw [hst, List.length_drop]
      exact ⟨rfl, k + q, h.setCell 1 (.int .i64 ((k + q : Nat) : Int)), ⟨hlc, hnil⟩, hl6, by omega, by dsimp only; rw [hst, List.drop_drop], hby, hrd⟩
    have hl2 : Hid (bs.length + k = B.length) := Lib.hid (by rw [hst, List.length_drop]; omega)
    have hby2 := Lib.hid hby
    have hrd2 : Hid (∀ V, SL V (.blk r [.slice a B.length c, .int .i64 k, .bool false] 55 :: .own 5 1 v n xs :: L) → RdY V a B) := Lib.hid fun V h => hrd V _ (h.re (.step (.there (.here _ _)) (.same _)))
    have hst2 := Lib.hid hst
    have hHS := Lib.hid HS
    have c2 := HS.cell (b := r) (o := 2) (.here _ _) rfl
    clear HS H0 hby hst hrd
    obtain ⟨N, hN⟩ : ∃ N, B.length = N := ⟨_, rfl⟩
    have hN' := Lib.hid hN
    rw [hN] at hlc hl6 hk hfail hgreat hdone hl2 hrd2 hHS
    clear hN
    unfold ptrV at *
    go_enter Try.func32, Try.ntmps32
    go_wp2_with fail
    clear c2
    go_loopw [7, 5, 6] (fun i x y V => ∃ (j : Nat) (z P : Int), j ≤ 10 ∧ k + j ≤ N ∧ i = .int .i64 j ∧ x = .int .u64 z ∧ y = .int .u64 P ∧ Hid (0 ≤ z ∧ z < 128 ^ j ∧ numF 0 0 bs = numF j z (bs.drop j) ∧ (j ≤ 9 → P = 128 ^ j)) ∧ SL V (.blk r [.slice a N c, .int .i64 k, .bool false] 55 :: .own 5 1 v n xs :: L)) (fun i _ _ _ => 10 - (intOf i).toNat)
    case atStart => exact ⟨0, 0, 1, by omega, by omega, rfl, rfl, rfl, Lib.hid ⟨by omega, by decide, rfl, fun _ => rfl⟩, hHS.out⟩
    case round =>
      clear hHS
      obtain ⟨j, z, P, hj10, hjN, rfl, rfl, rfl, hR, H⟩ := hrel
      have hH := Lib.hid H
      have c0 := H.cell (b := r) (o := 0) (.here _ _) rfl
      have c1 := H.cell (b := r) (o := 1) (.here _ _) rfl
      have c2 := H.cell (b := r) (o := 2) (.here _ _) rfl
      have f1 := H.free (b := r) (.here _ _) 1
      have f2 := H.free (b := r) (.here _ _) 2
      have g1 : 0 ≤ (k : Int) + (j : Int) := by omega
      have g2 : ((k : Int) + (j : Int)).toNat = k + j := by omega
      have g3 : IntKind.i64.wrap ((k : Int) + (j : Int)) = (k : Int) + (j : Int) := IntWalk.i64_in _ (by omega)
      clear H
      by_cases h10 : j = 10
      · have hF : Hid (numF 0 0 bs = none) := Lib.hid (by
          rw [hR.out.2.2.1]
          cases bs.drop j with
          | nil => exact numF_nil _ _
          | cons x l => exact numF_stop (.inl h10))
        have h10b : decide ((j : Int) < 10) = false := by simp; omega
        clear hR h10
        go_wp2_with fail
        go_quiet (fail)
        have hf := Lib.hid (hfail.out hF.out _ (hH.out.drewN nq))
        clear hF hfail hH hgreat hdone
        go_wp2_with fail
        go_ret
        exact ⟨by rw [hf.out.1]; rfl, hf.out.2⟩
      have h10b : decide ((j : Int) < 10) = true := by simp; omega
      by_cases hjn : k + j = N
      · have hF : Hid (numF 0 0 bs = none) := Lib.hid (by
          rw [hR.out.2.2.1, List.drop_eq_nil_of_le (by have := hl2.out; omega)]
          exact numF_nil _ _)
        have hNb : decide ((k : Int) + (j : Int) < (N : Int)) = false := by simp; omega
        clear hR h10 hjn
        go_wp2_with fail
        go_quiet (fail)
        have hf := Lib.hid (hfail.out hF.out _ (hH.out.drewN nq))
        clear hF hfail hH hgreat hdone
        go_wp2_with fail
        go_ret
        exact ⟨by rw [hf.out.1]; rfl, hf.out.2⟩
      have hNb : decide ((k : Int) + (j : Int) < (N : Int)) = true := by simp; omega
      have hjl : j < bs.length := by have := hl2.out; omega
      have hkB : k + j < B.length := by rw [hN'.out]; omega
      obtain ⟨b, o, ha, g4⟩ := hrd2.out wr hH.out (k + j) hkB
      have hcy := hby2.out _ (List.getElem_mem hkB)
      have hdr : Hid (bs.drop j = (B[k + j]'hkB) :: bs.drop (j + 1)) := Lib.hid (by
        rw [List.drop_eq_getElem_cons hjl]
        congr 1
        simp only [hst2.out, List.getElem_drop])
      generalize B[k + j]'hkB = x at *
      subst ha
      have g5 : ((k : Int) + (j : Int)) < (N : Int) := by omega
      have hx0 : 0 ≤ x := hcy.1
      have hx1 : x ≤ 255 := hcy.2
      have hcy' := Lib.hid hcy
      have hnx : Hid (numF 0 0 bs = numF j z (x :: bs.drop (j + 1))) := Lib.hid (by rw [hR.out.2.2.1, hdr.out])
      clear hkB hjl hcy hdr hjn
      by_cases h9 : j = 9 ∧ 1 < x
      · have hF : Hid (numF 0 0 bs = none) := Lib.hid (by
          rw [hnx.out, h9.1]
          exact numF_nine h9.2 hcy'.out)
        have h9b : ((j : Int) == 9) = true := by simp; omega
        have h9c : decide (1 < x) = true := by simp; exact h9.2
        clear hR h10 h9 hnx
        go_wp2_with fail
        go_quiet (fail)
        have hf := Lib.hid (fun V h => hfail.out hF.out V h)
        have hf0 := Lib.hid (hfail.out hF.out _ hH.out).1
        have hH2 := Lib.hid (fun q => hH.out.drewN q)
        clear hF hfail hH hgreat hdone
        go_wp2_with fail
        go_quiet (fail)
        go_wp2_with fail
        go_ret
        exact ⟨by rw [hf0.out]; rfl, (hf.out _ (hH2.out _)).2⟩
      have hH2' := Lib.hid (fun q => hH.out.drewN q)
      have hm9 : Hid (¬ (j = 10 ∨ (j = 9 ∧ 1 < x % 128))) := Lib.hid (by omega)
      have hst := num_step hR.out.1 hR.out.2.1 hcy'.out
      have hP : P = 128 ^ j := hR.out.2.2.2 (by omega)
      rw [← hP] at hst
      obtain ⟨Q, hQ⟩ : ∃ Q, x % 128 * P = Q := ⟨_, rfl⟩
      have hP0 : 1 ≤ P := by rw [hP]; exact (pow128 (by omega)).2
      have hQ0 : 0 ≤ Q := by rw [← hQ]; exact Int.mul_nonneg (by omega) (by omega)
      obtain ⟨V2, hV2⟩ : ∃ V2, z + Q = V2 := ⟨_, rfl⟩
      rw [hQ, hV2] at hst
      have hlim : Hid (V2 < 18446744073709551616) := Lib.hid (by
        by_cases hj9 : j = 9
        · have h1 := hR.out.2.1
          subst hj9
          have h3 : (128 : Int) ^ 9 = 9223372036854775808 := by decide
          rw [h3] at h1 hP
          have h4 : x % 128 ≤ 1 := by omega
          subst hP
          omega
        · have h3 := pow128 (i := j + 1) (by omega)
          omega)
      have hz0 : 0 ≤ z := hR.out.1
      have hor : IntKind.u64.wrap (z + IntKind.u64.wrap (x % 128 * P)) = V2 := by
        have h1 := hlim.out
        have e : IntKind.u64.wrap (x % 128 * P) = Q := by
          rw [hQ]
          unfold IntKind.wrap
          simp [IntKind.bits, IntKind.signed]
          omega
        rw [e, hV2]
        unfold IntKind.wrap
        simp [IntKind.bits, IntKind.signed]
        omega
      have hVm : Hid (z + x % 128 * 128 ^ j = V2) := Lib.hid (by rw [← hP, hQ]; exact hV2)
      have hstep := Lib.hid hst
      have hP9 : Hid (j < 9 → IntKind.u64.wrap (P * 128) = 128 ^ (j + 1)) := Lib.hid fun h => by
        have h3 := pow128 (i := j + 1) (by omega)
        rw [hP, Int.pow_succ] at *
        generalize (128 : Int) ^ j * 128 = y at *
        unfold IntKind.wrap
        simp [IntKind.bits, IntKind.signed]
        omega
      have hx1' : Hid (j = 9 → x ≤ 1) := Lib.hid fun h => by omega
      have hj9 : j < 10 := by omega
      clear hR hst hP hQ hV2 hlim hQ0 h10 hcy' h9
      have hH2 := Lib.hid (fun q => hH.out.drewN q)
      have hf0 := Lib.hid hH.out
      clear hH2' hH
      have hcase : (j = 0 ∨ (0 < j ∧ j < 9)) ∨ j = 9 := by omega
      by_cases h128 : 128 ≤ x
      · have hrel : Hid (0 ≤ V2 ∧ V2 < 128 ^ (j + 1) ∧ numF 0 0 bs = numF (j + 1) V2 (bs.drop (j + 1))) := Lib.hid ⟨hstep.out.1, hstep.out.2, by rw [hnx.out, numF_next hm9.out h128, hVm.out]⟩
        have hj1 : Hid (j + 1 ≤ 10) := Lib.hid (by have := hm9.out; omega)
        clear hnx hstep hVm hm9 hfail hgreat hdone
        rcases hcase with (hc | hc) | hc
        · have h9b : ((j : Int) == 9) = false := by simp; omega
          have hz2 : ¬ 0 < j := by omega
          have hz3 : decide (0 < j) = false := by simp; omega
          clear hc
          go_wp2_with fail
          go_quiet (fail)
          go_wp2_with fail
          go_quiet (fail)
          go_wp2_with fail
          go_roundw
          case rel => exact ⟨j + 1, V2, _, by omega, by omega, by go_num, rfl, rfl, Lib.hid ⟨hrel.out.1, hrel.out.2.1, hrel.out.2.2, fun h => by first | exact hP9.out (by omega) | (have := hP9.out; omega)⟩, hH2.out _⟩
          case measure => (simp [intOf]; try omega)
        · have h9b : ((j : Int) == 9) = false := by simp; omega
          have hz2 : 0 < j := hc.1
          clear hc
          go_wp2_with fail
          go_quiet (fail)
          go_wp2_with fail
          go_quiet (fail)
          go_wp2_with fail
          go_roundw
          case rel => exact ⟨j + 1, V2, _, by omega, by omega, by go_num, rfl, rfl, Lib.hid ⟨hrel.out.1, hrel.out.2.1, hrel.out.2.2, fun h => by first | exact hP9.out (by omega) | (have := hP9.out; omega)⟩, hH2.out _⟩
          case measure => (simp [intOf]; try omega)
        · have h9b : ((j : Int) == 9) = true := by simp; omega
          have h9c : decide (1 < x) = false := by have := hx1'.out hc; simp; omega
          have hz2 : 0 < j := by omega
          clear hc
          go_wp2_with fail
          go_quiet (fail)
          go_wp2_with fail
          go_quiet (fail)
          go_wp2_with fail
          go_roundw
          case rel => exact ⟨j + 1, V2, _, by omega, by omega, by go_num, rfl, rfl, Lib.hid ⟨hrel.out.1, hrel.out.2.1, hrel.out.2.2, fun h => by first | exact hP9.out (by omega) | (have := hP9.out; omega)⟩, hH2.out _⟩
          case measure => (simp [intOf]; try omega)
      have hx8 : x < 128 := by omega
      by_cases hz : x = 0 ∧ 0 < j
      · have hF : Hid (numF 0 0 bs = none) := Lib.hid (by rw [hnx.out]; exact numF_zero hm9.out hz.1 hz.2)
        have hff := Lib.hid (fun V h => hfail.out hF.out V h)
        have hf1 := Lib.hid (hfail.out hF.out _ hf0.out).1
        have hz1 : (x == 0) = true := by simp; exact hz.1
        clear hF hnx hstep hVm hm9 hfail hgreat hdone
        have hcase : (0 < j ∧ j < 9) ∨ j = 9 := by omega
        clear hz
        rcases hcase with hc | hc
        · have h9b : ((j : Int) == 9) = false := by simp; omega
          have hz2 : 0 < j := hc.1
          clear hc
          go_wp2_with fail
          go_quiet (fail)
          go_wp2_with fail
          go_quiet (fail)
          go_wp2_with fail
          go_ret
          exact ⟨by rw [hf1.out]; rfl, (hff.out _ (hH2.out _)).2⟩
        · have h9b : ((j : Int) == 9) = true := by simp; omega
          have h9c : decide (1 < x) = false := by have := hx1'.out hc; simp; omega
          have hz2 : 0 < j := by omega
          clear hc
          go_wp2_with fail
          go_quiet (fail)
          go_wp2_with fail
          go_quiet (fail)
          go_wp2_with fail
          go_ret
          exact ⟨by rw [hf1.out]; rfl, (hff.out _ (hH2.out _)).2⟩
      have hS : numF 0 0 bs = some (V2, j + 1) := by rw [hnx.out, numF_done hm9.out h128 hz, hVm.out]
      have hz' : Hid (0 < j → ¬ x = 0) := Lib.hid fun h h1 => hz ⟨h1, h⟩
      by_cases hmv : m < V2
      · have hff := Lib.hid (fun V h => hgreat.out _ _ hS hmv V h)
        have hf1 := Lib.hid (hgreat.out _ _ hS hmv _ hf0.out).1
        have hmb : decide (m < V2) = true := by simpa using hmv
        clear hS hnx hstep hVm hm9 hfail hgreat hdone hmv h128 hz
        have hcase : ((j = 0 ∧ x = 0) ∨ (j = 0 ∧ ¬ x = 0) ∨ (0 < j ∧ j < 9)) ∨ j = 9 := by omega
        rcases hcase with (⟨hc, hx⟩ | ⟨hc, hx⟩ | hc) | hc
        · have h9b : ((j : Int) == 9) = false := by simp; omega
          have hz2 : ¬ 0 < j := by omega
          have hz3 : decide (0 < j) = false := by simp; omega
          have hz1 : (x == 0) = true := by simpa using hx
          clear hx
          clear hc
          go_wp2_with fail
          go_quiet (fail)
          go_wp2_with fail
          go_quiet (fail)
          go_wp2_with fail
          go_ret
          exact ⟨by rw [hf1.out]; rfl, (hff.out _ (hH2.out _)).2⟩
        · have h9b : ((j : Int) == 9) = false := by simp; omega
          have hz2 : ¬ 0 < j := by omega
          have hz3 : decide (0 < j) = false := by simp; omega
          have hz1 : (x == 0) = false := by simpa using hx
          clear hx
          clear hc
          go_wp2_with fail
          go_quiet (fail)
          go_wp2_with fail
          go_quiet (fail)
          go_wp2_with fail
          go_ret
          exact ⟨by rw [hf1.out]; rfl, (hff.out _ (hH2.out _)).2⟩
        · have h9b : ((j : Int) == 9) = false := by simp; omega
          have hz2 : 0 < j := hc.1
          have hz1 : (x == 0) = false := by simpa using hz'.out (by omega)
          clear hc
          go_wp2_with fail
          go_quiet (fail)
          go_wp2_with fail
          go_quiet (fail)
          go_wp2_with fail
          go_ret
          exact ⟨by rw [hf1.out]; rfl, (hff.out _ (hH2.out _)).2⟩
        · have h9b : ((j : Int) == 9) = true := by simp; omega
          have h9c : decide (1 < x) = false := by have := hx1'.out hc; simp; omega
          have hz2 : 0 < j := by omega
          have hz1 : (x == 0) = false := by simpa using hz'.out (by omega)
          clear hc
          go_wp2_with fail
          go_quiet (fail)
          go_wp2_with fail
          go_quiet (fail)
          go_wp2_with fail
          go_ret
          exact ⟨by rw [hf1.out]; rfl, (hff.out _ (hH2.out _)).2⟩
      · have hff := Lib.hid (fun V h => (hdone.out _ _ hS (by omega) V h).2)
        have hf1 := Lib.hid (hdone.out _ _ hS (by omega) _ hf0.out).1
        have hmb : decide (m < V2) = false := by simpa using hmv
        have hs2 : IntKind.i64.wrap ((k : Int) + (j : Int) + 1) = ((k + (j + 1) : Nat) : Int) := by rw [IntWalk.i64_in _ (by omega)]; omega
        clear hS hnx hstep hVm hm9 hfail hgreat hdone hmv h128 hz
        have hcase : ((j = 0 ∧ x = 0) ∨ (j = 0 ∧ ¬ x = 0) ∨ (0 < j ∧ j < 9)) ∨ j = 9 := by omega
        rcases hcase with (⟨hc, hx⟩ | ⟨hc, hx⟩ | hc) | hc
        · have h9b : ((j : Int) == 9) = false := by simp; omega
          have hz2 : ¬ 0 < j := by omega
          have hz3 : decide (0 < j) = false := by simp; omega
          have hz1 : (x == 0) = true := by simpa using hx
          clear hx
          clear hc
          go_wp2_with fail
          go_quiet (fail)
          go_wp2_with fail
          go_quiet (fail)
          go_wp2_with fail
          go_ret
          exact ⟨by rw [hf1.out]; rfl, hff.out _ (hH2.out _)⟩
        · have h9b : ((j : Int) == 9) = false := by simp; omega
          have hz2 : ¬ 0 < j := by omega
          have hz3 : decide (0 < j) = false := by simp; omega
          have hz1 : (x == 0) = false := by simpa using hx
          clear hx
          clear hc
          go_wp2_with fail
          go_quiet (fail)
          go_wp2_with fail
          go_quiet (fail)
          go_wp2_with fail
          go_ret
          exact ⟨by rw [hf1.out]; rfl, hff.out _ (hH2.out _)⟩
        · have h9b : ((j : Int) == 9) = false := by simp; omega
          have hz2 : 0 < j := hc.1
          have hz1 : (x == 0) = false := by simpa using hz'.out (by omega)
          clear hc
          go_wp2_with fail
          go_quiet (fail)
          go_wp2_with fail
          go_quiet (fail)
          go_wp2_with fail
          go_ret
          exact ⟨by rw [hf1.out]; rfl, hff.out _ (hH2.out _)⟩
        · have h9b : ((j : Int) == 9) = true := by simp; omega
          have h9c : decide (1 < x) = false := by have := hx1'.out hc; simp; omega
          have hz2 : 0 < j := by omega
          have hz1 : (x == 0) = false := by simpa using hz'.out (by omega)
          clear hc
          go_wp2_with fail
          go_quiet (fail)
          go_wp2_with fail
          go_quiet (fail)
          go_wp2_with fail
          go_ret
          exact ⟨by rw [hf1.out]; rfl, hff.out _ (hH2.out _)⟩
end
end Go.Proofs.Ytilpkfgdlehmpaa
