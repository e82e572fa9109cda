/- The walk of the law SwapCosts. -/
import Derived.Test.YtamhlmfcnnomgaaHoldsW
import Derived.Test.YtamhlmfcnnomgaaLawC
namespace Go.Proofs.Ytamhlmfcnnomgaa
open Go.RowKit
set_option linter.unusedVariables false

theorem OwnK.rdM2 {w : World} {base : Nat} {a : Option Addr} {n m cap : Nat} {l : List Mv} {e : TypeId} (h : OwnK w base e 5 (.slice a n cap) m (mvs l)) (hm : l.length = m) : RdM w a l := by
  subst hm; exact h.rdM
theorem mvSpan_le (mode p s r to : Nat) (h : to < p) : (mvSpan mode p s r to).2 ≤ s := by
  unfold mvSpan; split
  · exact Nat.le_refl _
  · exact (held_le mode p s to (r + 1) h).2
theorem all_le2 {mode p s : Nat} (hp : 1 ≤ p) (hm : mode = 1 ∨ mode = 2) (hs : s ≤ 4096) : ∀ m ∈ allOf mode p s, m.a ≤ m.b ∧ m.b ≤ 1000000 := by
  intro m hmm
  refine ⟨all_le hp hm m hmm, ?_⟩
  obtain ⟨r, hr, h⟩ := List.mem_flatMap.1 hmm
  have hr := List.mem_range.1 hr
  obtain ⟨fr, f, k, hfr, hw, j, hj, hne, rfl⟩ := mem_moves h
  have hk := (holds mode p s fr r hm hp hfr hr).keep (mkMv mode p s r fr (f + j)) (by
    rw [← sends_eq mode p s r fr hfr]
    exact List.mem_filter.2 ⟨h, by simp [mkMv]⟩)
  have := (held_le mode p s fr r hfr).2
  omega
theorem wrap_nat (x : Nat) (h : x ≤ 1000000000) : wrap64 (x : Int) = (x : Int) := by unfold wrap64; omega
theorem costs_arith (P h T SA SB : Nat) (hp1 : 1 ≤ P) (hp : P ≤ 64) (hh : h ≤ 6) (hT : T ≤ 4096) (a2 : SA + T = P * T) (b2 : SB + T = P * T) :
    wrap64 ((P : Int) * (h : Int)) = ((P * h : Nat) : Int) ∧ wrap64 ((P : Int) * ((P : Int) - 1)) = ((P * (P - 1) : Nat) : Int) ∧ wrap64 (((P : Int) - 1) * (T : Int)) = (SA : Int) ∧ SB = SA ∧ P * h ≤ 4096 ∧ P * (P - 1) ≤ 4096 ∧ SA ≤ 262144 := by
  have e1 : (P : Int) - 1 = ((P - 1 : Nat) : Int) := by omega
  have m1 : P * h ≤ 64 * 6 := Nat.mul_le_mul hp hh
  have m2 : P * (P - 1) ≤ 64 * 63 := Nat.mul_le_mul hp (by omega)
  have m3 : P * T ≤ 64 * 4096 := Nat.mul_le_mul hp hT
  have m4 : (P - 1) * T = P * T - T := by rw [Nat.sub_mul, Nat.one_mul]
  rw [e1, ← Int.natCast_mul, ← Int.natCast_mul, ← Int.natCast_mul, m4]
  clear e1 m4
  generalize P * h = X at *
  generalize P * (P - 1) = Y at *
  generalize P * T = Z at *
  clear hp hh hp1
  refine ⟨wrap_nat X (by omega), wrap_nat Y (by omega), ?_, by omega, by omega, by omega, by omega⟩
  rw [wrap_nat _ (by omega)]
  omega
theorem wrap_pow (h P : Nat) (hP : 2 ^ h = P) (h1 : P ≤ 64) : wrap64 ((2 : Int) ^ h) = (P : Int) := by
  have e : (2 : Int) ^ h = (P : Int) := by rw [← hP]; simp
  rw [e]; exact wrap_nat P (by omega)

set_option maxRecDepth 100000 in
set_option maxHeartbeats 4000000 in
theorem swapCosts_c (k s : Int) (w : World) (k0 : 0 ≤ k) (k1 : k ≤ 255) (s0 : 0 ≤ s) (s1 : s ≤ 65535) :
    Calls Try.prog 3 #[.int .u8 k, .int .u16 s] w fun e w' => e = .returned (.bool true) ∧ Kp no w w' := by
  obtain ⟨h, hh⟩ : ∃ h : Nat, k % 7 = h := ⟨(k % 7).toNat, by omega⟩
  obtain ⟨T, hT⟩ : ∃ T : Nat, s % 4097 = T := ⟨(s % 4097).toNat, by omega⟩
  have hh6 : h ≤ 6 := by omega
  have hT2 : T ≤ 4096 := by omega
  have hp64 : 2 ^ h ≤ 64 := Nat.pow_le_pow_right (show 0 < 2 by decide) hh6
  have hp1 : 1 ≤ 2 ^ h := Nat.one_le_two_pow
  obtain ⟨a1, a2⟩ := half_all T h
  obtain ⟨b1, b2⟩ := direct_all (2 ^ h) T hp1
  have HA := Lib.hid (fun w => all_c 1 (2 ^ h) T w (.inl rfl) hp1 hp64 hT2)
  have HB := Lib.hid (fun w => all_c 2 (2 ^ h) T w (.inr rfl) hp1 hp64 hT2)
  have la := Lib.hid (all_le2 (mode := 1) (p := 2 ^ h) (s := T) hp1 (.inl rfl) hT2)
  have lb := Lib.hid (all_le2 (mode := 2) (p := 2 ^ h) (s := T) hp1 (.inr rfl) hT2)
  have eP1 := Lib.hid (wrap_pow h (2 ^ h) rfl hp64)
  generalize allOf 1 (2 ^ h) T = A at *
  generalize allOf 2 (2 ^ h) T = B at *
  generalize 2 ^ h = P at *
  obtain ⟨eM1, eM2, eM3, eAB, hlA, hlB, hsA⟩ := costs_arith P h T (sumS A) (sumS B) hp1 hp64 hh6 hT2 a2 b2
  rw [← a1] at eM1 hlA
  rw [← b1] at eM2 hlB
  clear a1 a2 b1 b2
  have htA : ∀ k, sumS (A.take k) ≤ sumS A := fun k => by
    have e := sumS_app (A.take k) (A.drop k)
    rw [List.take_append_drop] at e
    omega
  have htB : ∀ k, sumS (B.take k) ≤ sumS A := fun k => by
    have e := sumS_app (B.take k) (B.drop k)
    rw [List.take_append_drop] at e
    omega
  have htA' := Lib.hid htA
  have htB' := Lib.hid htB
  have eAB' := Lib.hid eAB
  clear htA htB eAB
  generalize hnA : A.length = nA at *
  generalize hnB : B.length = nB at *
  have hnA' := Lib.hid hnA
  have hnB' := Lib.hid hnB
  clear hnA hnB
  go_enter Try.func3, Try.ntmps3
  go_wp2_with fail
  refine (alive_c _).mono ?_
  rintro e w1 ⟨rfl, k1'⟩
  have q1 := Lib.hid k1'
  clear k1'
  go_wp2_with fail
  rw [eP1.out]
  refine (HA.out _).mono ?_
  rintro e w2 ⟨va, rfl, oa, k2⟩
  have q2 := Lib.hid (q1.out.trans k2)
  obtain ⟨ca, cpa, rfl, u1, u2, u3, u4, u5⟩ := oa.slice
  have oa' := Lib.hid oa
  clear oa k2 u3 u4 u5
  go_wp2_with fail
  refine (HB.out _).mono ?_
  rintro e w3 ⟨vb, rfl, ob, k3⟩
  have q3 := Lib.hid (q2.out.trans k3)
  obtain ⟨cb, cpb, rfl, v1, v2, u3, u4, u5⟩ := ob.slice
  have oa3 := Lib.hid (oa'.out.no k3)
  have ob' := Lib.hid ob
  clear ob k3 u3 u4 u5 oa' q1 q2
  have eM3' := Lib.hid eM3
  clear eM3
  go_wp2_with fail
  clear eM1 eM2
  go_loopw [13, 63] (fun sn c V => ∃ k : Nat, k ≤ nA ∧ c = .int .i64 k ∧ sn = .int .i64 (sumS (A.take k)) ∧ Kp no w3 V) (fun _ c _ => nA - (intOf c).toNat)
  case atStart => exact ⟨0, by omega, rfl, by simp [sumS], Kp.refl _ _⟩
  case round =>
    obtain ⟨k, hk, rfl, rfl, hkV⟩ := hrel
    by_cases hkn : k < nA
    · have hkO : k < A.length := by rw [hnA'.out]; exact hkn
      obtain ⟨b, o, rfl, z0, z1, z2, z3, z4⟩ := (OwnK.rdM2 (oa3.out.no hkV) hnA'.out).cells hkO
      have z5 : wr.cell? ⟨b, o + k * 5 + 3 + 1, none⟩ = some (.int .i64 (A[k]'hkO).b) := z4
      have ht1 := htA'.out k
      have hts : sumS (A.take (k + 1)) = sumS (A.take k) + ((A[k]'hkO).b - (A[k]'hkO).a) := by rw [List.take_succ_eq_append_getElem hkO, sumS_app]; simp [sumS]
      have hts' := Lib.hid hts
      have ht2 := htA'.out (k + 1)
      rw [hts] at ht2
      obtain ⟨g4, g5⟩ := la.out (A[k]'hkO) (List.getElem_mem hkO)
      generalize A[k]'hkO = m at *
      generalize hS9 : sumS (A.take k) = S at *
      obtain ⟨_, mf, mt, ma, mb⟩ := m
      simp only at *
      have hkV' := Lib.hid hkV
      clear hts hS9 hkV z0 z1 z2
      go_wp2_with fail
      have hmb : mb ≤ 1000000 := g5
      have hw1 : IntKind.i64.wrap ((S : Int) + (mb : Int)) = (S : Int) + (mb : Int) := IntWalk.i64_in _ (by omega)
      have hw2 : IntKind.i64.wrap ((S : Int) + (mb : Int) - (ma : Int)) = (S : Int) + (mb : Int) - (ma : Int) := IntWalk.i64_in _ (by omega)
      go_quiet (fail)
      clear hw1 hw2
      go_wp2_with fail
      go_roundw
      case rel => exact ⟨k + 1, by omega, by go_num, by rw [hts'.out]; go_num, hkV'.out.drewN _⟩
      case measure => (simp [intOf]; try omega)
    · obtain rfl : k = nA := by omega
      have hSall : sumS (A.take k) = sumS A := by rw [List.take_of_length_le (by rw [hnA'.out]; omega)]
      rw [hSall]
      have hkV' := Lib.hid hkV
      clear hSall hkV
      go_wp2_with fail
      go_loopw [14, 84] (fun sn c V => ∃ k : Nat, k ≤ nB ∧ c = .int .i64 k ∧ sn = .int .i64 (sumS (B.take k)) ∧ Kp no w3 V) (fun _ c _ => nB - (intOf c).toNat)
      case atStart => exact ⟨0, by omega, rfl, by simp [sumS], hkV'.out⟩
      case round =>
        obtain ⟨j, hj, rfl, rfl, hkW⟩ := hrel
        by_cases hjn : j < nB
        · have hjO : j < B.length := by rw [hnB'.out]; exact hjn
          obtain ⟨b, o, rfl, z0, z1, z2, z3, z4⟩ := (OwnK.rdM2 (ob'.out.no hkW) hnB'.out).cells hjO
          have z5 : wr.cell? ⟨b, o + j * 5 + 3 + 1, none⟩ = some (.int .i64 (B[j]'hjO).b) := z4
          have ht1 := htB'.out j
          have hts : sumS (B.take (j + 1)) = sumS (B.take j) + ((B[j]'hjO).b - (B[j]'hjO).a) := by rw [List.take_succ_eq_append_getElem hjO, sumS_app]; simp [sumS]
          have hts' := Lib.hid hts
          have ht2 := htB'.out (j + 1)
          rw [hts] at ht2
          obtain ⟨g4, g5⟩ := lb.out (B[j]'hjO) (List.getElem_mem hjO)
          generalize B[j]'hjO = m at *
          generalize hS9 : sumS (B.take j) = S at *
          obtain ⟨_, mf, mt, ma, mb⟩ := m
          simp only at *
          have hkW' := Lib.hid hkW
          clear hts hS9 hkW z0 z1 z2
          go_wp2_with fail
          have hmb : mb ≤ 1000000 := g5
          have hw1 : IntKind.i64.wrap ((S : Int) + (mb : Int)) = (S : Int) + (mb : Int) := IntWalk.i64_in _ (by omega)
          have hw2 : IntKind.i64.wrap ((S : Int) + (mb : Int) - (ma : Int)) = (S : Int) + (mb : Int) - (ma : Int) := IntWalk.i64_in _ (by omega)
          go_quiet (fail)
          clear hw1 hw2
          go_wp2_with fail
          go_roundw
          case rel => exact ⟨j + 1, by omega, by go_num, by rw [hts'.out]; go_num, hkW'.out.drewN _⟩
          case measure => (simp [intOf]; try omega)
        · obtain rfl : j = nB := by omega
          have hSall : sumS (B.take j) = sumS A := by rw [List.take_of_length_le (by rw [hnB'.out]; omega), eAB'.out]
          rw [hSall]
          have hkW' := Lib.hid hkW
          have eM3 := eM3'.out
          clear hSall hkW
          go_wp2_with fail
          go_ret
          exact ⟨rfl, q3.out.trans hkW'.out⟩

theorem swapCosts_w (k s : Int) (w : World) (hk : (Lit.int .u8 k).wf = true) (hs : (Lit.int .u16 s).wf = true) :
    Calls Try.prog 3 #[.int .u8 k, .int .u16 s] w fun e w' => e = .returned (.bool true) ∧ Below w.heap.size w w' :=
  (swapCosts_c k s w (wf_b hk).1 (wf_b hk).2 (wf_u16 hs).1 (wf_u16 hs).2).mono fun _ _ h => ⟨h.1, h.2.self_below⟩
end Go.Proofs.Ytamhlmfcnnomgaa
