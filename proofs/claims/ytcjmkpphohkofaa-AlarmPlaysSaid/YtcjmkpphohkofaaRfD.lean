/- The reference's Drop, Below. -/
import Derived.Test.YtcjmkpphohkofaaRfC
namespace Go.Proofs.Ytcjmkpphohkofaa
open Go.RowKit Go.Shelf
set_option linter.unusedVariables false

section
variable {R : Int} {y : Nat} {s : Ck} {L : List Pc} {w : World}
/-- Elements from o on, m of them, of a slice of the call's own, read at its address. -/
theorem own_part {e : TypeId} {g n c : Nat} {l : List Al} {L : List Pc} {w : World} (H : SL w (.own e 4 (.slice (some ⟨g, 0, none⟩) n c) n (alC l) :: L)) (o m : Nat) (h : o + m ≤ n) :
    Rd w (some ⟨g, o * 4, none⟩) (alC ((l.drop o).take m)).length (fun i => (alC ((l.drop o).take m)).getD i undef) := by
  have hl : l.length = n := by
    have h1 : OwnK w 0 e 4 (.slice (some ⟨g, 0, none⟩) n c) n (alC l) := H.head
    have := h1.1
    rw [alC_length] at this
    omega
  have hlen : (alC ((l.drop o).take m)).length = m * 4 := by rw [alC_length, List.length_take, List.length_drop]; omega
  intro i hi
  rw [hlen] at hi
  refine ⟨g, o * 4, rfl, ?_⟩
  rw [own_get H (i := o * 4 + i) (by omega)]
  congr 1
  show (alC l).getD (o * 4 + i) undef = (alC ((l.drop o).take m)).getD i undef
  rw [List.getD_eq_getElem?_getD, List.getD_eq_getElem?_getD, ← alC_take, ← alC_drop, List.getElem?_take, if_pos (by omega), List.getElem?_drop]

set_option maxRecDepth 100000 in
set_option maxHeartbeats 8000000 in
theorem rdrop_c (H : RF R y s L w) (k : Int) :
    Calls Try.prog 37 #[ptrV y, .int .u64 k] w fun e w' => e = .returned (.int .i64 (hasE s k)) ∧ RF R y (dropS s k) L w' := by
  obtain ⟨now, sl, ol, HS, ok⟩ := H
  have hlen : ol.length ≤ 256 := by rw [ok.len]; exact ok.2.2.len
  have hat := Lib.hid (at_c HS hlen k)
  have hH := Lib.hid HS
  have hok := Lib.hid ok
  cases hh : hasK s.l k with
  | false =>
    have hno : k ∉ keysK ol := fun h => by rw [ok.has.2 h] at hh; cases hh
    have he : Hid (hasE s k = 200 ∧ dropS s k = s) := Lib.hid ⟨by unfold hasE; rw [hh]; rfl, by unfold dropS; rw [dropK_no hh]⟩
    rw [he.out.1, he.out.2]
    clear HS ok hh he
    unfold ptrV at *
    go_enter Try.func37, Try.ntmps37
    go_wp2_with fail
    refine hat.out.mono ?_
    rintro e w2 ⟨r, rfl, rfl, hr⟩
    obtain rfl := atis_no hr hno
    clear hat hr hno
    go_wp2_with fail
    go_ret
    exact ⟨rfl, _, _, _, hH.out, hok.out⟩
  | true =>
    have hyes := ok.has.1 hh
    have he : Hid (hasE s k = 0) := Lib.hid (by unfold hasE; rw [if_pos hh])
    rw [he.out]
    clear HS ok hh he
    unfold ptrV at *
    go_enter Try.func37, Try.ntmps37
    go_wp2_with fail
    refine hat.out.mono ?_
    rintro e w2 ⟨r, rfl, rfl, hr⟩
    obtain ⟨i, hi, rfl, hk⟩ := atis_yes hr hyes
    obtain ⟨g, sc, rfl, hsc, -⟩ := own_alE (hH.out.re (.step (.there (.here _ _)) (.same _))) hi
    have hcp := Lib.hid (drop_perm hok.out hi hk)
    unfold rfP at hH
    obtain ⟨n, hn⟩ : ∃ n, ol.length = n := ⟨_, rfl⟩
    have hn' := Lib.hid hn
    have hll : Hid ((ol.take i ++ ol.drop (i + 1)).length = i + (n - (i + 1))) := Lib.hid (by rw [List.length_append, List.length_take, List.length_drop]; omega)
    rw [hn] at hH hsc hi hlen
    have c3 := hH.out.cell (b := y) (o := 3) (.here _ _) rfl
    have H0 : SL w (.own 73 4 (.slice (some ⟨g, 0, none⟩) n sc) n (alC ol) :: .own 73 4 (.slice none 0 0) 0 [] :: .blk y [.int .i64 s.a, .int .i64 s.b, .int .i64 now, .slice (some ⟨g, 0, none⟩) n sc] 71 :: L) :=
      ((show SL w (_ :: _ :: L) from hH.out).pure (q := .own 73 4 (.slice none 0 0) 0 []) (OwnK.nil _ _ _ _) (fun b h => by cases h)).re (.step (.there (.there (.here _ _))) (.step (.here _ _) (.same _)))
    have hH0 := Lib.hid H0
    have hr1 := Lib.hid (own_part H0 0 i (by omega))
    have hil : i < ol.length := by omega
    have e1 : (ol.drop 0).take i = ol.take i := by rw [List.drop_zero]
    rw [e1, Nat.zero_mul] at hr1
    have hl1 : (alC (ol.take i)).length = i * 4 := by rw [alC_length, List.length_take]; omega
    have hi1 : i ≤ sc := by omega
    have hi2 : i + 1 ≤ sc := by omega
    clear hat hr hyes hk hH H0 hn e1
    go_upto_region 6 with (
      at_builtin
      refine sl_app hH0.out rfl _ _ _ rfl elemO _ rfl (.there (.here _ _)) (alC (ol.take i)) rfl hl1 hr1.out (alC_one _) (by simp only [maxLen]; omega) (by omega) (fun h => by cases h) ?_
      intro v' w3 H5 hnil
      obtain ⟨a3, c4, rfl, -⟩ := OwnK.slice H5.head
      rw [Nat.zero_add, List.nil_append] at H5
      have hH5 := Lib.hid H5
      have c5 := H5.cell (b := y) (o := 3) (.there (.there (.here _ _))) rfl
      clear H5 hnil hH0 hr1 c3)
    have hr2 := Lib.hid (own_part (hH5.out.re (.step (.there (.here _ _)) (.same _))) (i + 1) (n - (i + 1)) (by omega))
    have e2 : (ol.drop (i + 1)).take (n - (i + 1)) = ol.drop (i + 1) := List.take_of_length_le (by rw [List.length_drop, hn'.out]; exact Nat.le_refl _)
    rw [e2] at hr2
    have hl2 : (alC (ol.drop (i + 1))).length = (n - (i + 1)) * 4 := by rw [alC_length, List.length_drop, hn'.out]
    have hfin : Hid (∀ V v, SL V (.blk y [.int .i64 s.a, .int .i64 s.b, .int .i64 now, v] 71 :: .own 73 4 v (i + (n - (i + 1))) (alC (ol.take i) ++ alC (ol.drop (i + 1))) :: L) → RF R y (dropS s k) L V) := Lib.hid fun V v h => ⟨now, v, _, by
      unfold rfP dropS
      dsimp only
      rw [hll.out, alC_append]
      exact h, hcp.out⟩
    clear hok hcp hll hl1 e2 hil
    by_cases hcc : sc = i + 1
    · have h0 : n - (i + 1) = 0 := by omega
      have e3 : alC (ol.drop (i + 1)) = [] := List.eq_nil_of_length_eq_zero (by rw [hl2, h0])
      rw [e3, List.append_nil, h0] at hfin
      clear hr2 hl2 e3
      subst hcc
      go_wp2_with (
        at_builtin
        refine sl_app hH5.out rfl _ _ _ rfl elemO _ rfl (.here _ _) (a := some ⟨g, 0, none⟩) (m := 0) (c := 0) [] rfl rfl (fun j hj => absurd hj (Nat.not_lt_zero _)) (fun u hu => by cases hu) (by simp only [maxLen]; omega) (by omega) (fun h => by cases h) ?_
        intro v' w4 H6 hnil
        obtain ⟨a4, c6, rfl, -⟩ := OwnK.slice H6.head
        rw [List.append_nil] at H6
        have c7 := H6.cell (b := y) (o := 3) (.there (.there (.here _ _))) rfl
        have f7 := H6.free (b := y) (.there (.there (.here _ _))) 3
        have hH6 := Lib.hid ((H6.re (.step (.there (.there (.here _ _))) (.step (.here _ _) (.drop (.same _))))).setCell 3 (.slice a4 (i + 0) c6))
        clear H6 hnil hH5 c5)
      have hf := Lib.hid (hfin.out _ _ hH6.out)
      go_ret
      exact ⟨rfl, hf.out⟩
    · have hcc2 : ¬ sc = i + 1 := hcc
      go_wp2_with (
        at_builtin
        refine sl_app hH5.out rfl _ _ _ rfl elemO _ rfl (.here _ _) (alC (ol.drop (i + 1))) rfl hl2 hr2.out (alC_one _) (by simp only [maxLen]; omega) (by omega) (fun h => by cases h) ?_
        intro v' w4 H6 hnil
        obtain ⟨a4, c6, rfl, -⟩ := OwnK.slice H6.head
        have c7 := H6.cell (b := y) (o := 3) (.there (.there (.here _ _))) rfl
        have f7 := H6.free (b := y) (.there (.there (.here _ _))) 3
        have hH6 := Lib.hid ((H6.re (.step (.there (.there (.here _ _))) (.step (.here _ _) (.drop (.same _))))).setCell 3 (.slice a4 (i + (n - (i + 1))) c6))
        clear H6 hnil hH5 c5 hr2)
      have hf := Lib.hid (hfin.out _ _ hH6.out)
      go_ret
      exact ⟨rfl, hf.out⟩
end
end Go.Proofs.Ytcjmkpphohkofaa
