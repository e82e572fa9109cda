/- The walks of the reference's barrier: Missing, Has, Ints. -/
import Derived.Test.YtejgkehcplajhaaRef1
import Derived.Test.YtejgkehcplajhaaBar4
namespace Go.Proofs.Ytejgkehcplajhaa
open Go.RowKit
set_option linter.unusedVariables false

theorem missL_le (ms : List Int) (ps : Int → Bool) (k : Nat) : (missL (ms.take k) ps).length ≤ k := by
  unfold missL
  have := List.length_filter_le (fun x => !ps x) (ms.take k)
  simp at this; omega

set_option maxHeartbeats 1000000 in
theorem refMissing_c (q cm ch fr f N : Nat) (am ah : Option Addr) (vs : List Value) (ms : List Int) (ps : Int → Bool) (w : World) {L : List Pc} (H : SL w (refL q cm ch fr f N am ah vs ms ps ++ L))
    (hl : ms.length ≤ 100) (hN : N ≤ 1000) (h1 : fr ≤ f) (h2 : f ≤ N) (h3 : f < N → ∃ x ∈ ms, ps x = false) :
    Calls Try.prog 21 #[.pointer (some ⟨q, 0, none⟩)] w fun e w' => ∃ a' c', e = .returned (.slice a' (missM f N ms ps).length c') ∧
      SL w' (.own 3 1 (.slice a' (missM f N ms ps).length c') (missM f N ms ps).length (iv (missM f N ms ps)) :: (refL q cm ch fr f N am ah vs ms ps ++ L)) := by
  have hF := Lib.hid (refFrame_c q cm ch fr f N am ah vs ms ps w H hl hN h1 h2 h3)
  have hH := Lib.hid H
  obtain ⟨n, hn⟩ : ∃ n, ms.length = n := ⟨_, rfl⟩
  have hn' := Lib.hid hn
  have hmm : Hid (missM f N ms ps = if (f : Int) = N then [] else missL ms ps) := Lib.hid rfl
  rw [hn] at hl
  clear hn h3 H
  go_enter Try.func21, Try.ntmps21
  go_wp2_with fail
  refine hF.out.mono ?_
  rintro e w' ⟨rfl, rfl⟩
  clear hF
  go_wp2_with fail
  by_cases hfN : f < N
  · have hmm' := Lib.hid (hmm.out.trans (if_neg (by omega)))
    go_loopw [4, 5] (fun o i V => ∃ (k : Nat) (a : Option Addr) (c : Nat), k ≤ n ∧ i = .int .i64 k ∧ o = .slice a (missL (ms.take k) ps).length c ∧
      SL V (.own 3 1 (.slice a (missL (ms.take k) ps).length c) (missL (ms.take k) ps).length (iv (missL (ms.take k) ps)) :: (refL q cm ch fr f N am ah vs ms ps ++ L))) (fun _ i _ => n - (intOf i).toNat)
    case atStart => exact ⟨0, none, 0, by omega, rfl, by simp [missL], hH.out.pure (q := .own 3 1 (.slice none 0 0) 0 []) (OwnK.nil _ _ _ _) (fun b h => by cases h)⟩
    case round =>
      obtain ⟨k, a, c, hk, rfl, rfl, H⟩ := hrel
      have hH := Lib.hid H
      obtain ⟨c0, c1, c2, c3, hr⟩ := ref_cells H.tail
      rw [hn'.out] at c0 c3
      by_cases hkn : k < n
      · have hkm : k < ms.length := by rw [hn'.out]; exact hkn
        obtain ⟨bh, oh, ar, cr, rfl, d1, -, d2⟩ := ref_row H.tail hkm
        obtain ⟨br, or, rfl, d3⟩ := d2 f hfN
        obtain ⟨b, o, rfl, d4⟩ := hr.cell hkm
        have hs := Lib.hid (missL_succ (ps := ps) hkm)
        have hle := missL_le ms ps k
        have hm : metB fr f ps (ms[k]'hkm) f = ps (ms[k]'hkm) := by simp [metB]
        rw [hm] at d3
        generalize hX : missL (ms.take k) ps = X at *
        have hX' := Lib.hid hX
        clear hX
        cases hp : ps (ms[k]'hkm)
        · rw [hp] at d3 hs
          generalize ms[k]'hkm = y at *
          clear hr d2 hp hm H
          go_wp2_with (
            at_builtin
            refine sl_app (hH.out.alloc [.int .i64 y] 3) rfl _ _ _ rfl elemI _ rfl (.there (.here _ _)) [.int .i64 y] rfl rfl (rd_newK _ _ _) (by simp [Value.oneCell']) (by simp only [maxLen]; omega) (by omega) (fun h => by cases h) ?_
            intro v' w3 H3 hnil
            obtain ⟨a', c', rfl, -⟩ := OwnK.slice H3.head
            have H4 := Lib.hid (H3.re (.step (.here _ _) (.drop (.same _))))
            clear H3 hnil)
          go_roundw
          case rel =>
            refine ⟨k + 1, a', c', by omega, by go_num, ?_, ?_⟩
            · rw [hs.out]; simp
            · rw [hs.out]; simp only [Bool.false_eq_true, if_false, List.length_append, List.length_singleton, iv_append]; exact H4.out
          case measure => (simp [intOf]; try omega)
        · rw [hp] at d3 hs
          generalize ms[k]'hkm = y at *
          clear hr d2 hp hm H
          go_wp2_with fail
          go_roundw
          case rel =>
            refine ⟨k + 1, a, c, by omega, by go_num, ?_, ?_⟩
            · rw [hs.out]; simp
            · rw [hs.out]; exact hH.out
          case measure => (simp [intOf]; try omega)
      · obtain rfl : k = n := by omega
        have e : ms.take k = ms := List.take_of_length_le (by rw [hn'.out]; exact Nat.le_refl _)
        have e2 := Lib.hid (hmm'.out.trans (congrArg (missL · ps) e.symm))
        generalize hX : missL (ms.take k) ps = X at *
        clear hr H hX
        go_wp2_with fail
        go_ret
        rw [e2.out]
        exact ⟨a, c, rfl, hH.out⟩
  · have hmm' := Lib.hid (hmm.out.trans (if_pos (by omega)))
    have hfN' : decide ((f : Int) < (N : Int)) = false := by simp; omega
    obtain ⟨c0, c1, c2, c3, hr⟩ := ref_cells hH.out
    rw [hn'.out] at c0 c3
    clear hr
    go_loopw [4, 5] (fun o i V => i = .int .i64 0 ∧ o = .slice none 0 0 ∧ w = V) (fun _ i _ => 0)
    case atStart => exact ⟨rfl, rfl, rfl⟩
    case round =>
      obtain ⟨rfl, rfl, rfl⟩ := hrel
      by_cases h0 : 0 < n
      · go_wp2_with fail
        go_ret
        rw [hmm'.out]
        exact ⟨none, 0, rfl, hH.out.pure (q := .own 3 1 (.slice none 0 0) 0 []) (OwnK.nil _ _ _ _) (fun b h => by cases h)⟩
      · obtain rfl : n = 0 := by omega
        go_wp2_with fail
        go_ret
        rw [hmm'.out]
        exact ⟨none, 0, rfl, hH.out.pure (q := .own 3 1 (.slice none 0 0) 0 []) (OwnK.nil _ _ _ _) (fun b h => by cases h)⟩

theorem idxI_lt {x : Int} {ms : List Int} (h : x ∈ ms) : ∃ i, ∃ hi : i < ms.length, idxI x ms = i ∧ ms[i]'hi = x := by
  induction ms with
  | nil => cases h
  | cons y l ih =>
    by_cases e : x = y
    · exact ⟨0, by simp, by simp [idxI, e], by simp [e]⟩
    · obtain ⟨i, hi, h1, h2⟩ := ih (by simpa [e] using h)
      refine ⟨i + 1, by simpa using hi, ?_, by simpa using h2⟩
      simp [idxI, e, h1]
      omega

set_option maxHeartbeats 1000000 in
theorem refHas_c (q cm ch fr f N : Nat) (am ah : Option Addr) (vs : List Value) (ms : List Int) (ps : Int → Bool) (x k : Int) (w : World) {L : List Pc} (H : SL w (refL q cm ch fr f N am ah vs ms ps ++ L))
    (hl : ms.length ≤ 100) (hN : N ≤ 1000) (h2 : f ≤ N) (h3 : f = N → ∀ x ∈ ms, ps x = false) :
    Calls Try.prog 23 #[.pointer (some ⟨q, 0, none⟩), .int .i64 x, .int .i64 k] w fun e w' => e = .returned (.bool (hasM fr f ms ps x k)) ∧ w = w' := by
  have hA := Lib.hid (refAt_c q cm ch fr f N am ah vs ms ps x w H hl)
  obtain ⟨c0, c1, c2, c3, -⟩ := ref_cells H
  have hrow := Lib.hid (fun i hi => ref_row H (i := i) hi)
  have hd : Hid (hasM fr f ms ps x k = (decide (x ∈ ms) && decide ((fr : Int) ≤ k) && (decide (k < (f : Int)) || (decide (k = (f : Int)) && ps x)))) := Lib.hid rfl
  have h3' := Lib.hid h3
  obtain ⟨n, hn⟩ : ∃ n, ms.length = n := ⟨_, rfl⟩
  have hn' := Lib.hid hn
  rw [hn] at c0 c3 hl
  clear H hn h3
  by_cases hx : x ∈ ms
  · rw [show decide (x ∈ ms) = true by simpa using hx] at hd
    obtain ⟨i, hi, e1, e2⟩ := idxI_lt hx
    obtain ⟨bh, oh, ar, cr, rfl, d1, d0, d2⟩ := hrow.out i hi
    rw [e2] at d2
    rw [e1] at hA
    have hin : i < n := by rw [← hn'.out]; exact hi
    have hx' := Lib.hid hx
    clear hrow hx e1 e2 hi
    by_cases g1 : (fr : Int) ≤ k
    · obtain ⟨K, rfl⟩ : ∃ K : Nat, k = K := ⟨k.toNat, by omega⟩
      have b1 : decide ((fr : Int) ≤ (K : Int)) = true := by simpa using g1
      rw [b1] at hd
      by_cases g2 : K < N
      · obtain ⟨br, or, rfl, d3⟩ := d2 K g2
        have hfin := Lib.hid (show hasM fr f ms ps x K = metB fr f ps x K by
          rw [hd.out]
          simp only [Bool.true_and, metB, show decide (fr ≤ K) = true by simp; omega]
          congr 1
          · rw [decide_eq_decide]; omega
          · congr 1; rw [decide_eq_decide]; omega)
        generalize metB fr f ps x K = r at *
        clear d2
        go_enter Try.func23, Try.ntmps23
        go_wp2_with fail
        refine hA.out.mono ?_
        rintro e w' ⟨rfl, rfl⟩
        go_wp2_with fail
        go_ret
        exact ⟨by rw [hfin.out]; rfl, rfl⟩
      · have hfin := Lib.hid (show hasM fr f ms ps x K = false by
          rw [hd.out]
          have q1 : decide ((K : Int) < (f : Int)) = false := by simp; omega
          rw [q1]
          by_cases q2 : (K : Int) = f
          · rw [h3'.out (by omega) x hx'.out]; simp
          · simp [q2])
        have b2 : decide ((K : Int) < (N : Int)) = false := by simp; omega
        clear d2
        go_enter Try.func23, Try.ntmps23
        go_wp2_with fail
        refine hA.out.mono ?_
        rintro e w' ⟨rfl, rfl⟩
        go_wp2_with fail
        go_ret
        exact ⟨by rw [hfin.out]; rfl, rfl⟩
    · have b1 : decide ((fr : Int) ≤ k) = false := by simpa using g1
      have hfin := Lib.hid (show hasM fr f ms ps x k = false by rw [hd.out, b1]; rfl)
      clear d2
      go_enter Try.func23, Try.ntmps23
      go_wp2_with fail
      refine hA.out.mono ?_
      rintro e w' ⟨rfl, rfl⟩
      go_wp2_with fail
      go_ret
      exact ⟨by rw [hfin.out]; rfl, rfl⟩
  · rw [show decide (x ∈ ms) = false by simpa using hx] at hd
    have hfin := Lib.hid (show hasM fr f ms ps x k = false by rw [hd.out]; rfl)
    rw [idxI_no hx] at hA
    clear hrow hx
    go_enter Try.func23, Try.ntmps23
    go_wp2_with fail
    refine hA.out.mono ?_
    rintro e w' ⟨rfl, rfl⟩
    go_wp2_with fail
    go_ret
    exact ⟨by rw [hfin.out]; rfl, rfl⟩
end Go.Proofs.Ytejgkehcplajhaa
