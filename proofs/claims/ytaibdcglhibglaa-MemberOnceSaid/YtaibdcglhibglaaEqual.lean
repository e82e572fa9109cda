/- The walk of slices.Equal. -/
import Derived.Test.YtaibdcglhibglaaIntSl
namespace Go.Proofs.Ytaibdcglhibglaa
open Go.RowKit
set_option linter.unusedVariables false

theorem equal_len (a b : Option Addr) (n m ca cb : Nat) (w : World) (h : n ≠ m) :
    Calls Try.prog 36 #[.slice a n ca, .slice b m cb] w fun e w' => e = .returned (.bool false) ∧ w = w' := by
  have hb : ((n : Int) != (m : Int)) = true := by simp; omega
  go_enter Try.func36, Try.ntmps36
  go_wp2_with fail
  go_ret
  exact ⟨rfl, rfl⟩

theorem equal_same (a b : Option Addr) (l k : List Int) (ca cb : Nat) (w : World) (h : l.length = k.length) (hl : l.length ≤ 1000000) (ha : RdI w a l) (hb : RdI w b k) :
    Calls Try.prog 36 #[.slice a l.length ca, .slice b k.length cb] w fun e w' => e = .returned (.bool (decide (l = k))) ∧ ∃ n, w' = w.drewN n := by
  have h' := Lib.hid h
  have ha' := Lib.hid ha
  have hb' := Lib.hid hb
  obtain ⟨r, hr⟩ : ∃ r, decide (l = k) = r := ⟨_, rfl⟩
  have hr' := Lib.hid hr
  rw [← h, hr]
  obtain ⟨n, hn⟩ : ∃ n, l.length = n := ⟨_, rfl⟩
  have hn' := Lib.hid hn
  rw [hn] at hl ⊢
  clear h ha hb hn hr
  have hnn : ((n : Int) != (n : Int)) = false := by simp
  go_enter Try.func36, Try.ntmps36
  go_wp2_with fail
  go_loopw [13] (fun i V => ∃ j : Nat, j ≤ n ∧ i = .int .i64 j ∧ Hid (l.take j = k.take j) ∧ ∃ d, V = w.drewN d) (fun i _ => n - (intOf i).toNat)
  case atStart => exact ⟨0, by omega, rfl, Lib.hid (by simp), 0, rfl⟩
  case round =>
    obtain ⟨j, hj, rfl, heq, d, rfl⟩ := hrel
    by_cases hjn : j < n
    · have hjl : j < l.length := by rw [hn'.out]; exact hjn
      have hjk : j < k.length := by rw [← h'.out]; exact hjl
      obtain ⟨ba, oa, rfl, a0⟩ := ha'.out.cell hjl
      obtain ⟨bb, ob, rfl, b0⟩ := hb'.out.cell hjk
      have ht1 := List.take_succ_eq_append_getElem hjl
      have ht2 := List.take_succ_eq_append_getElem hjk
      have hne : l[j] ≠ k[j] → decide (l = k) = false := fun h => by
        rw [decide_eq_false_iff_not]
        rintro rfl
        exact h rfl
      generalize l[j] = x at *
      generalize k[j] = y at *
      have ht1' := Lib.hid ht1
      have ht2' := Lib.hid ht2
      have hne' := Lib.hid hne
      clear hjl hjk ht1 ht2 hne
      by_cases hs : x = y
      · have hq : (x != y) = false := by simpa using hs
        have hs' := Lib.hid hs
        clear hs
        go_wp2_with fail
        go_quiet (fail)
        go_wp2_with fail
        go_roundw
        case rel =>
          refine ⟨j + 1, by omega, by go_num, Lib.hid ?_, _, rfl⟩
          rw [ht1'.out, ht2'.out, heq.out, hs'.out]
        case measure => (simp [intOf]; try omega)
      · have hq : (x != y) = true := by simpa using hs
        have hs' := Lib.hid hs
        clear hs
        go_wp2_with fail
        go_quiet (fail)
        go_wp2_with fail
        go_ret
        exact ⟨ret_b (by rw [← hr'.out, hne'.out hs'.out]), _, World.drewN_drewN _ _ _⟩
    · obtain rfl : j = n := by omega
      have hlk : l = k := by
        have := heq.out
        rw [List.take_of_length_le (by rw [hn'.out]; omega), List.take_of_length_le (by rw [← h'.out, hn'.out]; omega)] at this
        exact this
      have hfin := Lib.hid (show r = true by rw [← hr'.out, hlk]; simp)
      clear hlk
      go_wp2_with fail
      go_ret
      exact ⟨ret_b (by rw [hfin.out]), _, rfl⟩

theorem equal_c (a b : Option Addr) (l k : List Int) (ca cb : Nat) (w : World) (hl : l.length ≤ 1000000) (ha : RdI w a l) (hb : RdI w b k) :
    Calls Try.prog 36 #[.slice a l.length ca, .slice b k.length cb] w fun e w' => e = .returned (.bool (decide (l = k))) ∧ ∃ n, w' = w.drewN n := by
  by_cases h : l.length = k.length
  · exact equal_same a b l k ca cb w h hl ha hb
  · refine (equal_len a b _ _ ca cb w h).mono ?_
    rintro e w' ⟨rfl, rfl⟩
    refine ⟨?_, 0, rfl⟩
    rw [show decide (l = k) = false by simp; rintro rfl; exact h rfl]
theorem equal_yes (a b : Option Addr) (l : List Int) (ca cb : Nat) (w : World) (hl : l.length ≤ 1000000) (ha : RdI w a l) (hb : RdI w b l) :
    Calls Try.prog 36 #[.slice a l.length ca, .slice b l.length cb] w fun e w' => e = .returned (.bool true) ∧ ∃ n, w' = w.drewN n := by
  refine (equal_c a b l l ca cb w hl ha hb).mono ?_
  rintro e w' ⟨rfl, h⟩
  exact ⟨by simp, h⟩
end Go.Proofs.Ytaibdcglhibglaa
