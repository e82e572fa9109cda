/- The walks of swap's All and Ends, over any numbers. -/
import Derived.Test.YtamhlmfcnnomgaaAsks
namespace Go.Proofs.Ytamhlmfcnnomgaa
open Go.RowKit
set_option linter.unusedVariables false

def allPre (mode p s k : Nat) : List Mv := (List.range k).flatMap (movesOf mode p s)
def allOf (mode p s : Nat) : List Mv := allPre mode p s (roundsOf mode p)
theorem allPre_succ (mode p s k : Nat) : allPre mode p s (k + 1) = allPre mode p s k ++ movesOf mode p s k := by simp [allPre, List.range_succ]
theorem allPre_len (mode p s k : Nat) (hp : 1 ≤ p) (hp2 : p ≤ 64) : (allPre mode p s k).length ≤ k * 4096 := by
  induction k with
  | zero => simp [allPre]
  | succ k ih => rw [allPre_succ, List.length_append]; have := moves_len mode p s k hp hp2; omega
theorem rounds_le (mode p : Nat) (h1 : 1 ≤ p) (h2 : p ≤ 64) : roundsOf mode p ≤ 7 := by
  unfold roundsOf; have := log_le h1 h2; split <;> omega

def yes (_ : Mv) : Bool := true
theorem yesF : Asks 28 #[] yes (fun _ => True) := by
  intro W m _
  unfold moveV yes
  show Calls _ _ #[.agg #[.int .i64 m.rd, .int .i64 m.fr, .int .i64 m.to, .int .i64 m.a, .int .i64 m.b]] _ _
  go_enter Try.func28, Try.ntmps28
  go_wp2
  go_ret
  exact ⟨rfl, by first | exact Kp.refl _ _ | exact (Kp.refl no _).alloc _⟩

theorem all_no (mode p s : Int) (w : World) (h : ¬ okP mode p s) : Calls Try.prog 11 #[.int .i64 mode, .int .i64 p, .int .i64 s] w fun e w' => e = .returned (.tuple #[.slice none 0 0, .int .i64 260]) ∧ w = w' := by
  have hc := Lib.hid (fun w => check_c mode p s w)
  rw [ckE_no h] at hc
  clear h
  go_enter Try.func11, Try.ntmps11
  go_wp2_with fail
  refine (hc.out _).mono ?_
  rintro e w' ⟨rfl, rfl⟩
  go_wp2_with fail
  go_ret2
  exact ⟨rfl, rfl⟩

theorem filter_yes (l : List Mv) : l.filter yes = l := List.filter_eq_self.2 fun _ _ => rfl

set_option maxHeartbeats 1000000 in
theorem all_c (mode p s : Nat) (w : World) (hm : mode = 1 ∨ mode = 2) (h1 : 1 ≤ p) (h2 : p ≤ 64) (h3 : s ≤ 4096) : Calls Try.prog 11 #[.int .i64 mode, .int .i64 p, .int .i64 s] w fun e w' =>
    ∃ v, e = .returned (.tuple #[v, .int .i64 0]) ∧ OwnK w' w.heap.size 31 5 v (allOf mode p s).length (mvs (allOf mode p s)) ∧ Kp no w w' := by
  have hok : okP mode p s := ⟨by omega, by omega, by omega, by omega, by omega⟩
  have hc := Lib.hid (fun w => check_c mode p s w)
  rw [ckE_ok hok] at hc
  have hr := Lib.hid (fun w => rounds_c mode p s w h1 h2)
  have hr7 := rounds_le mode p h1 h2
  have hso := Lib.hid (fun (k : Nat) (hk : k < roundsOf mode p) W => some_c mode p s k W hm h1 h2 h3 hk 28 #[] yes (fun _ => True) yesF (enters_of Try.func28 (by kernel_rfl) rfl) (fun _ _ _ _ _ _ => trivial) trivial)
  have hlen := Lib.hid (fun k => allPre_len mode p s k h1 h2)
  have hlen2 := Lib.hid (fun k => moves_len mode p s k h1 h2)
  have hall := Lib.hid (show allOf mode p s = allPre mode p s (roundsOf mode p) from rfl)
  generalize allOf mode p s = AL at *
  obtain ⟨n, hn⟩ : ∃ n, w.heap.size = n := ⟨_, rfl⟩
  generalize roundsOf mode p = R at *
  clear hok
  go_enter Try.func11, Try.ntmps11
  go_wp2_with fail
  refine (hc.out _).mono ?_
  rintro e w' ⟨rfl, rfl⟩
  go_wp2_with fail
  refine (hr.out _).mono ?_
  rintro e w1 ⟨rfl, hk1⟩
  have hB := hk1.at (blk_new w _) (fun h => h)
  have hsz := hk1.size
  rw [World.size_alloc, hn] at hsz
  rw [hn] at hB
  have hK1 := ((Kp.refl no w).alloc _).trans hk1
  have hn' := Lib.hid hn
  clear hk1 hn
  go_wp2_with fail
  go_loopw [10, 25] (fun o i V => ∃ (k : Nat) (a : Option Addr) (cap : Nat), k ≤ R ∧ i = .int .i64 k ∧ o = .slice a (allPre mode p s k).length cap ∧ V.heap[n]? = some (.cells #[.int .i64 mode, .int .i64 p, .int .i64 s] 65) ∧
      OwnK V (n + 1) 31 5 (.slice a (allPre mode p s k).length cap) (allPre mode p s k).length (mvs (allPre mode p s k)) ∧ Kp no w V) (fun _ i _ => R - (intOf i).toNat)
  case atStart => exact ⟨0, none, 0, by omega, rfl, rfl, hB, OwnK.nil _ _ _ _, hK1⟩
  case round =>
    clear hB hK1
    obtain ⟨k, a, cap, hk, rfl, rfl, i1, i2, i3⟩ := hrel
    by_cases hkR : k < R
    · obtain ⟨c0, c1, c2⟩ := three_blk i1
      have hlk := hlen.out k
      have hlm := hlen2.out k
      have hsn := Lib.hid (allPre_succ mode p s k)
      have hw1 := i3.size
      rw [hn'.out] at hw1
      have hlt := blk_lt i1
      have i1' := Lib.hid i1
      have i2' := Lib.hid i2
      have i3' := Lib.hid i3
      clear i1 i2 i3
      generalize hpre : allPre mode p s k = PR at *
      generalize hmv : movesOf mode p s k = MV at *
      go_wp2_with fail
      refine (hso.out k hkR _).mono ?_
      rintro e w2 ⟨v, rfl, ho, hk2⟩
      rw [hmv, filter_yes] at ho
      obtain ⟨a2, cap2, rfl, q1, q2, q3, q4, q5⟩ := ho.slice
      have i2b := Lib.hid (i2'.out.no hk2)
      have i1b := Lib.hid (hk2.at i1'.out (fun h => h))
      have i3b := Lib.hid (i3'.out.trans hk2)
      have hw2 := hk2.size
      have q4' := Lib.hid q4
      have q3' := Lib.hid q3
      have hmv' := Lib.hid hmv
      have hpre' := Lib.hid hpre
      clear ho hk2 q4 q3 q5 hmv hpre
      go_wp2_with (
        at_builtin
        refine wpList_appK rfl (.tmp 28) (.tmp 31) _ rfl (n + 1) elemMv (.slice a PR.length cap) rfl i2b.out (by omega) (mvs MV) rfl (mvs_len _) (by rw [mvs_len]; exact q4'.out) (mvs_one _) (by simp only [maxLen]; omega) (by omega) q3'.out ?_
        intro v' w3 ho3 hk3 hnil
        obtain ⟨a3, cap3, rfl, -⟩ := ho3.slice
        have j1 := Lib.hid (hk3.at i1b.out (fun h => by have := (i2b.out.block h).1; omega))
        have j2 := Lib.hid ho3
        have j3 := Lib.hid (i3b.out.then hk3 (fun _ _ h => h) (U := no) (fun g hg h => by have := (i2b.out.block h).1; have := hn'.out; omega))
        clear ho3 hk3 hnil)
      go_roundw
      case rel =>
        refine ⟨k + 1, a3, cap3, by omega, by go_num, ?_, j1.out, ?_, j3.out⟩
        · rw [hsn.out, List.length_append]
        · rw [hsn.out, List.length_append, mvs_app]; exact j2.out
      case measure => (simp [intOf]; try omega)
    · obtain rfl : k = R := by omega
      rw [← hall.out] at i2 ⊢
      have i2' := Lib.hid i2
      have i3' := Lib.hid i3
      clear i1 i2 i3
      go_wp2_with fail
      go_ret2
      exact ⟨_, rfl, i2'.out.mono (by have := hn'.out; omega), i3'.out⟩
end Go.Proofs.Ytamhlmfcnnomgaa
