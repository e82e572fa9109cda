/- slices.Clone at alarms; slices.BinarySearchFunc by the key. -/
import Derived.Test.YtcjmkpphohkofaaIns
import Derived.Lib.SliceRun
import Derived.Deep.CutBlock
import Derived.Deep.CutRange
import Derived.IntWalk
namespace Go.Proofs.Ytcjmkpphohkofaa
open Go.RowKit
set_option linter.unusedVariables false

def u64k (z : Int) : Prop := 0 ≤ z ∧ z < 2 ^ 64

set_option maxHeartbeats 4000000 in
theorem clone_c {v : Value} {l : List Al} {w : World} {L : List Pc} (H : SL w (.own 59 4 v l.length (alC l) :: L)) (hl : l.length ≤ 100000) :
    Calls Try.prog 35 #[v] w fun e w' => ∃ v', e = .returned v' ∧ SL w' (.own 59 4 v' l.length (alC l) :: .own 59 4 v l.length (alC l) :: L) := by
  obtain ⟨n, hn⟩ : ∃ n, l.length = n := ⟨_, rfl⟩
  have hal := alC_length l
  rw [hn] at hl hal H ⊢
  have hq := fun (w : World) (a : Option Addr) (n c : Nat) => Lib.run_eql_slice_nil (P := Try.prog) w 52 59 a n c 0 0 Try.underlying52
  have hown : OwnK w 0 59 4 v n (alC l) := H.head
  rcases hown.form with ⟨rfl, rfl, he⟩ | ⟨g, cap, rfl, -, -, hnc, hcm, -, hcell, -⟩
  · have h : alC l = [] := he
    rw [h] at H ⊢
    have hfin := Lib.hid (H.pure (q := .own 59 4 (.slice none 0 0) 0 []) (OwnK.nil _ _ _ _) (fun b h => by cases h))
    clear H hown hn h he
    go_enter Try.func35, Try.ntmps35
    go_wp2_with fail
    go_ret
    exact ⟨_, rfl, hfin.out⟩
  · have hrd := hown.rd.2.1
    have hH := Lib.hid H
    have hr' := Lib.hid hrd
    have hone := Lib.hid (alC_one l)
    clear H hown hn hrd hcell
    go_enter Try.func35, Try.ntmps35
    go_wp2_with (
      at_builtin
      have K0 := (Kp.refl no w).alloc (.cells #[] 59)
      have H1 := (hH.out.new (q := .own 59 4 (.slice (some ⟨w.heap.size, 0, none⟩) 0 0) 0 []) K0 ⟨rfl, .inr ⟨_, 0, #[], rfl, Nat.zero_le _, blk_new w _, Nat.le_refl _, Nat.zero_le _, rfl, rfl⟩⟩ (fun x hx => Nat.le_of_eq (Option.some.inj hx)))
      have R1 := hr'.out.no K0
      refine sl_app H1 rfl _ _ _ rfl elemA _ rfl (.here _ _) (alC l) rfl hal (by rw [hal]; exact R1) hone.out (by simp only [maxLen]; omega) (by omega) (fun h => by cases h) ?_
      intro v' w3 H3 hnil
      clear K0 H1 R1)
    rw [Nat.zero_add] at H3
    have H3' := Lib.hid H3
    clear H3 hH hr'
    go_wp2_with fail
    go_ret
    exact ⟨_, rfl, H3'.out⟩

/-- cmp.Compare -/
def cmpI (a b : Int) : Int := if a < b then -1 else if b < a then 1 else 0
theorem nan_c (a : Int) (w : World) : Calls Try.prog 52 #[.int .u64 a] w fun e w' => e = .returned (.bool false) ∧ w = w' := by
  have h : (a != a) = false := by simp
  go_enter Try.func52, Try.ntmps52
  go_wp2_with fail
  go_ret
  exact ⟨rfl, rfl⟩
theorem compare_c (a b : Int) (w : World) : Calls Try.prog 46 #[.int .u64 a, .int .u64 b] w fun e w' => e = .returned (.int .i64 (cmpI a b)) ∧ w = w' := by
  have h1 := Lib.hid (nan_c a w)
  have h2 := Lib.hid (nan_c b w)
  obtain ⟨z, hz⟩ : ∃ z, cmpI a b = z := ⟨_, rfl⟩
  have hz' := Lib.hid hz
  rw [hz]
  unfold cmpI at hz
  by_cases hab : a < b
  · rw [if_pos hab] at hz
    subst hz
    go_enter Try.func46, Try.ntmps46
    go_wp2_with fail
    refine h1.out.mono ?_
    rintro e w' ⟨rfl, rfl⟩
    go_wp2_with fail
    refine h2.out.mono ?_
    rintro e w' ⟨rfl, rfl⟩
    go_wp2_with fail
    go_ret
    exact ⟨rfl, rfl⟩
  · rw [if_neg hab] at hz
    by_cases hba : b < a
    · rw [if_pos hba] at hz
      subst hz
      go_enter Try.func46, Try.ntmps46
      go_wp2_with fail
      refine h1.out.mono ?_
      rintro e w' ⟨rfl, rfl⟩
      go_wp2_with fail
      refine h2.out.mono ?_
      rintro e w' ⟨rfl, rfl⟩
      go_wp2_with fail
      go_ret
      exact ⟨rfl, rfl⟩
    · rw [if_neg hba] at hz
      subst hz
      go_enter Try.func46, Try.ntmps46
      go_wp2_with fail
      refine h1.out.mono ?_
      rintro e w' ⟨rfl, rfl⟩
      go_wp2_with fail
      refine h2.out.mono ?_
      rintro e w' ⟨rfl, rfl⟩
      go_wp2_with fail
      go_ret
      exact ⟨rfl, rfl⟩
theorem byKey_c (x : Al) (k : Int) {w : World} {L : List Pc} (H : SL w L) :
    Calls Try.prog 45 #[.agg x.c.toArray, .int .u64 k] w fun e w' => e = .returned (.int .i64 (cmpI x.key k)) ∧ SL w' L := by
  have hH := Lib.hid (H.alloc x.c 59)
  have hc := Lib.hid (compare_c x.key k)
  unfold Al.c at *
  obtain ⟨x0, x1, x2, x3⟩ := x
  dsimp only at *
  clear H
  go_enter Try.func45, Try.ntmps45
  go_wp2_with fail
  refine (hc.out _).mono ?_
  rintro e w' ⟨rfl, rfl⟩
  have hfin := Lib.hid hH.out.tail
  go_wp2_with fail
  go_ret
  exact ⟨rfl, hfin.out⟩
end Go.Proofs.Ytcjmkpphohkofaa
