/- The reference's Below. -/
import Derived.Test.YtcjmkpphohkofaaRfD
namespace Go.Proofs.Ytcjmkpphohkofaa
open Go.RowKit Go.Shelf
set_option linter.unusedVariables false

section
variable {R : Int} {y : Nat} {s : Ck} {L : List Pc} {w : World}
theorem from_take {l : List Al} {j : Nat} (hj : j < l.length) (k : Int) : fromK (l.take (j + 1)) k = if (l[j]'hj).key < k then fromK (l.take j) k else fromK (l.take j) k ++ [l[j]'hj] := by
  unfold fromK
  rw [List.take_succ_eq_append_getElem hj, List.filter_append, List.filter_cons]
  by_cases h : (l[j]'hj).key < k
  · rw [if_pos h]; simp [h]
  · rw [if_neg h]; simp [h]
theorem from_len (l : List Al) (k : Int) : (fromK l k).length ≤ l.length := List.length_filter_le _ _

set_option maxRecDepth 100000 in
set_option maxHeartbeats 8000000 in
theorem rbelow_c (H : RF R y s L w) (k : Int) :
    Calls Try.prog 39 #[ptrV y, .int .u64 k] w fun e w' => e = .returned (.int .i64 (s.l.length - (fromK s.l k).length : Nat)) ∧ RF R y (belowS s k) L w' := by
  obtain ⟨now, sl, ol, HS, ok⟩ := H
  have hlen : ol.length ≤ 256 := by rw [ok.len]; exact ok.2.2.len
  have hcp := below_perm ok k
  have hres : Hid (s.l.length - (fromK s.l k).length = ol.length - (fromK ol k).length) := Lib.hid (by
    rw [← ok.len]
    have h2 := hcp.len
    have h3 : (belowS s k).l = fromK s.l k := rfl
    rw [h3] at h2
    rw [h2])
  rw [hres.out]
  obtain ⟨sa, sc, rfl, hsc, -⟩ := sl_form (HS.re (.step (.there (.here _ _)) (.same _)))
  obtain ⟨n, hn⟩ : ∃ n, ol.length = n := ⟨_, rfl⟩
  have hn' := Lib.hid hn
  have hfin : Hid (∀ V v, SL V (.blk y [.int .i64 s.a, .int .i64 s.b, .int .i64 now, v] 71 :: .own 73 4 v (fromK ol k).length (alC (fromK ol k)) :: L) → RF R y (belowS s k) L V) := Lib.hid fun V v h => ⟨now, v, _, h, hcp⟩
  have hH : Hid (SL w (.own 73 4 (.slice none 0 0) 0 (alC (fromK (ol.take 0) k)) :: .blk y [.int .i64 s.a, .int .i64 s.b, .int .i64 now, .slice sa n sc] 71 :: .own 73 4 (.slice sa n sc) n (alC ol) :: L)) := by
    unfold rfP at HS
    rw [hn] at HS
    exact Lib.hid ((show SL w (_ :: _ :: L) from HS).pure (q := .own 73 4 (.slice none 0 0) 0 []) (OwnK.nil _ _ _ _) (fun b h => by cases h))
  rw [hn] at hlen hsc ⊢
  clear HS ok hn hcp hres
  unfold ptrV at *
  go_enter Try.func39, Try.ntmps39
  go_wp2_with fail
  go_loopw [6, 5] (fun i x V => ∃ (u m : Nat) (la : Option Addr) (lc : Nat), u ≤ n ∧ i = .int .i64 u ∧ x = .slice la m lc ∧ m ≤ u ∧ Hid ((fromK (ol.take u) k).length = m ∧ SL V (.own 73 4 (.slice la m lc) m (alC (fromK (ol.take u) k)) :: .blk y [.int .i64 s.a, .int .i64 s.b, .int .i64 now, .slice sa n sc] 71 :: .own 73 4 (.slice sa n sc) n (alC ol) :: L))) (fun i _ _ => n - (intOf i).toNat)
  case atStart => exact ⟨0, 0, none, 0, by omega, rfl, rfl, by omega, Lib.hid ⟨rfl, hH.out⟩⟩
  case round =>
    clear hH
    obtain ⟨u, m, la, lc, hu, rfl, rfl, hmu, hR⟩ := hrel
    have c3 := hR.out.2.cell (b := y) (o := 3) (.there (.here _ _)) rfl
    by_cases hun : u < n
    · have hul : u < ol.length := by rw [hn'.out]; exact hun
      have hft := Lib.hid (from_take hul k)
      have h3 := hR.out.2.re (.step (.there (.there (.here _ _))) (.same _))
      rw [← hn'.out] at h3
      obtain ⟨g, cap, e1, -, g0, g1, g2, g3⟩ := own_alE h3 hul
      simp only [Value.slice.injEq] at e1
      obtain ⟨rfl, -, rfl⟩ := e1
      have hx : Hid (alC [ol[u]'hul] = [.int .u64 (ol[u]'hul).key, .int .i64 (ol[u]'hul).wait, .int .i64 (ol[u]'hul).left, .int .i64 (ol[u]'hul).rung]) := Lib.hid rfl
      have hui : u + 1 ≤ sc := by omega
      by_cases hlt : (ol[u]'hul).key < k
      · rw [if_pos hlt] at hft
        clear g1 g2 g3 h3
        have hlb : decide ((ol[u]'hul).key < k) = true := by simpa using hlt
        go_wp2_with fail
        go_roundw
        case rel => exact ⟨u + 1, m, la, lc, by omega, by go_num, rfl, by omega, Lib.hid ⟨by rw [hft.out]; exact hR.out.1, by rw [hft.out]; exact hR.out.2⟩⟩
        case measure => (simp [intOf]; try omega)
      · rw [if_neg hlt] at hft
        have hle : k ≤ (ol[u]'hul).key := by omega
        have hlb : decide ((ol[u]'hul).key < k) = false := by simpa using hlt
        obtain ⟨hm, HC⟩ := hR.out
        have hm' := Lib.hid hm
        have hHC := Lib.hid HC
        clear hR h3 hm HC
        generalize hxx : ol[u]'hul = x at *
        obtain ⟨ky, wt, lf, rg⟩ := x
        have hxx' := Lib.hid hxx
        clear hxx
        dsimp only at *
        generalize fromK (ol.take u) k = us at *
        go_wp2_with (
          at_builtin
          refine sl_app (hHC.out.alloc [.int .u64 ky, .int .i64 wt, .int .i64 lf, .int .i64 rg] 73) rfl _ _ _ rfl elemO _ rfl (.there (.here _ _)) [.int .u64 ky, .int .i64 wt, .int .i64 lf, .int .i64 rg] rfl rfl (rd_front (hHC.out.alloc _ _)) (by simp [Value.oneCell']) (by simp only [maxLen]; omega) (by omega) (fun h => by cases h) ?_
          intro v' w7 H7 hnil
          obtain ⟨a3, c4, rfl, -⟩ := OwnK.slice H7.head
          have hH7 := Lib.hid (H7.re (.step (.here _ _) (.drop (.same _))))
          clear H7 hnil hHC)
        go_roundw
        case rel =>
          refine ⟨u + 1, m + 1, a3, c4, by omega, by go_num, rfl, by omega, Lib.hid ⟨?_, ?_⟩⟩
          · rw [hft.out, List.length_append, hm'.out]; rfl
          · rw [hft.out, alC_append, hx.out]
            exact hH7.out
        case measure => (simp [intOf]; try omega)
    · obtain rfl : u = n := by omega
      have hR2 := hR
      rw [List.take_of_length_le (by rw [hn'.out]; exact Nat.le_refl _)] at hR2
      obtain ⟨hm, HC⟩ := hR2.out
      rw [hm] at hfin
      have hm' := Lib.hid hm
      have f3 := HC.free (b := y) (.there (.here _ _)) 3
      have hf := Lib.hid (hfin.out _ _ (((HC.re (.step (.there (.here _ _)) (.step (.here _ _) (.drop (.same _))))).setCell 3 (.slice la m lc))))
      clear hR hR2 HC hfin hm
      go_wp2_with fail
      go_ret
      refine ⟨?_, hf.out⟩
      have := hm'.out
      have e2 : ((u : Int) - m) = ((u - (fromK ol k).length : Nat) : Int) := by omega
      rw [← e2]
      rfl
end
end Go.Proofs.Ytcjmkpphohkofaa
