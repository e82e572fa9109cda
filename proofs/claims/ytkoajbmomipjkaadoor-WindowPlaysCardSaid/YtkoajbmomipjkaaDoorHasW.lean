/- behind, and Has. -/
import Derived.Test.YtkoajbmomipjkaaDoorBehind
import Derived.Test.YtkoajbmomipjkaaDoorChains
import Derived.Shelf.Abstract
import Derived.RangeFuncCalls
import Derived.RangeFuncNested
import Derived.WalkMore
import Derived.BigFrameIn
import Derived.BigGuardIn
import Derived.LoopIn
import Derived.Sort.QuietIn
namespace Go.Proofs.YtkoajbmomipjkaaDoor
open Go.RowKit
set_option linter.unusedVariables false
attribute [local go_sem] Oper.semAt_some

/-- The first bits lie all ahead of n. -/
def Ahead (l : List Nat) (N n i : Nat) : Prop := ∀ j (hj : j < l.length), j < i → N + 1 + l[j] < n

theorem egB : ∀ args w, (callFunc 37 args).run Tryd.prog w = .ok (.enter 37 args) w := enters_of Tryd.func37 (by kernel_rfl) rfl

theorem behind_c (N m : Int) (w : World) {L : List Pc} (H : SL w L) :
    Calls Tryd.prog 25 #[.agg #[.int .u64 N, .int .u64 m]] w fun e w' => ∃ B, e = .returned (.func (.func 37) #[] #[.pointer (some ⟨B, 0, none⟩)]) ∧ SL w' (.blk B [.int .u64 N, .int .u64 m] 58 :: L) := by
  have hmf : ∀ (fn : Fn) (first cap : Array Value) (w : World), (Instr.makeFunc fn first cap).run Tryd.prog w = .ok (.func fn first cap) w := fun _ _ _ _ => rfl
  have H1 := Lib.hid (H.alloc [.int .u64 N, .int .u64 m] 58)
  go_enter Tryd.func25, Tryd.ntmps25
  go_wp2_with fail
  go_ret
  exact ⟨_, rfl, H1.out⟩

set_option maxHeartbeats 4000000 in
theorem has_cS {p N n : Nat} {x : BitVec 64} {S : Nat → Prop} (hS : ¬ S 0) (W0 : World) {w : World} (H : SL w (winB p true N (U x) :: [.old W0 S])) (ht : Tab W0) (hN : (N : Int) ≤ 4611686018427389000) :
    Calls Tryd.prog 10 #[.pointer (some ⟨p, 0, none⟩), .int .u64 n] w fun e w' => e = .returned (.bool (metM N x n)) ∧ SL w' (winB p true N (U x) :: [.old W0 S]) := by
  have hno := Lib.hid (fun V (h : SL V (.blk w.heap.size [.int .u64 n] 22 :: winB p true N (U x) :: [.old W0 S])) => none_c (h.re (L' := winB p true N (U x) :: .blk w.heap.size [.int .u64 n] 22 :: [.old W0 S]) (.step (.there (.here _ _)) (.same _))))
  have H1 := Lib.hid (H.alloc [.int .u64 n] 22)
  clear H
  refine calls_of_marks Tryd.func10 rfl ?_
  simp only [Tryd.ntmps10, List.size_toArray, List.length_cons, List.length_nil, Nat.reduceAdd, Nat.reduceSub, Array.replicate_succ, Array.replicate_zero, List.push_toArray, List.append_toArray, List.nil_append, List.cons_append]
  gi_wp2_with (first | refine wpIn_label ?_ | refine scope_in ?_)
  refine ⟨trivial, rfl, (calls_in (hno.out _ H1.out)).mono ?_⟩
  rintro e w2 ⟨rfl, rfl⟩
  gi_wp2_with (first | refine wpIn_label ?_ | refine scope_in ?_)
  clear hno
  generalize w.alloc (.cells #[Value.int .u64 n] 22) = w1 at *
  generalize w.heap.size = bn at *
  have hH := H1
  have c0 := H1.out.cell (o := 0) (.here _ _) rfl
  have c1 := H1.out.cell (o := 1) (.there (.here _ _)) rfl
  have b0 := blk_lt (show w1.heap[bn]? = _ from H1.out.head)
  have b1 := blk_lt (show w1.heap[p]? = _ from H1.out.tail.head)
  obtain ⟨q, hq⟩ : ∃ q, decide (n < N) = q := ⟨_, rfl⟩
  gi_region
  have H2 : SL (w1.alloc (.cells #[Value.bool q] 4)).drew [.blk w1.heap.size [.bool q] 4, .blk bn [.int .u64 n] 22, winB p true N (U x), .old W0 S] := (H1.out.alloc [.bool q] 4).drew
  generalize (w1.alloc (.cells #[Value.bool q] 4)).drew = w2 at *
  generalize w1.heap.size = bs at *
  have c0 := H2.cell (o := 0) (.here _ _) rfl
  have c1 := H2.cell (o := 0) (.there (.here _ _)) rfl
  have c2 := H2.cell (o := 1) (.there (.there (.here _ _))) rfl
  have c3 := H2.cell (o := 2) (.there (.there (.here _ _))) rfl
  have hH2 := Lib.hid H2
  have hq' := Lib.hid hq
  clear H2 H1 hH b0 b1 hq
  gi_wp2_with (first | refine wpIn_label ?_ | refine scope_in ?_)
  refine ⟨trivial, rfl, (calls_in (behind_c (N : Int) (U x) w2 hH2.out)).mono ?_⟩
  rintro e w3 ⟨B, rfl, H3⟩
  have H3' := Lib.hid H3
  clear hH2 H3 c2 c3
  obtain ⟨l, hl⟩ := chain_ex x
  have hl' := Lib.hid hl
  have hg := Lib.hid (behind_gives B (N : Int) x l hl W0 ht (by omega) hN hS)
  clear hl ht hN hS
  gi_wp2_with (first | refine wpIn_label ?_ | refine scope_in ?_)
  refine wp_rangeS rfl egB hg.out (by simp) (fun i L' => L' = [.blk bs [.bool q] 4, .blk bn [.int .u64 n] 22, winB p true N (U x)] ∧ Hid (Ahead l N n i))
    (fun c i L' => c = .exit 0 ∧ L' = [.blk bs [.bool (metM N x n)] 4, .blk bn [.int .u64 n] 22, winB p true N (U x)])
    (L0 := [.blk bs [.bool q] 4, .blk bn [.int .u64 n] 22, winB p true N (U x)]) ⟨rfl, Lib.hid fun j hj h => by omega⟩ (H3'.out.re (.step (.there (.here _ _)) (.step (.there (.here _ _)) (.step (.there (.here _ _)) (.same _))))) ?_ ?_ ?_
  · rintro i hi V l2 _ T ⟨rfl, hlt⟩ H
    have hil : i < l.length := by simpa using hi
    have hxi : (l.map fun i : Nat => #[Value.int .u64 ((N : Int) + 1 + i)])[i] = #[.int .u64 ((N : Int) + 1 + (l[i]'hil : Nat))] := by simp
    rw [hxi]
    have hat : Hid (n ≤ N + 1 + l[i]'hil → metM N x n = (q || decide (N + 1 + l[i]'hil = n))) := Lib.hid fun h => by
      rw [← hq'.out]; exact met_at hl'.out hil (fun j hj h2 => hlt.out j hj h2) h
    have hnext : Hid (N + 1 + l[i]'hil < n → Hid (Ahead l N n (i + 1)))   := Lib.hid fun h => Lib.hid fun j hj h2 => by
      rcases Nat.lt_or_ge j i with h3 | h3
      · exact hlt.out j hj h3
      · obtain rfl : j = i := by omega
        exact h
    generalize l[i]'hil = y at *
    clear hxi hlt hil hi
    gi_wp2_with fail
    refine ⟨_, H, ?_⟩
    clear H
    intro V2 T2 H
    simp only [List.cons_append, List.nil_append] at H
    have k0 := H.cell (o := 0) (.here _ _) rfl
    have k1 := H.cell (o := 0) (.there (.here _ _)) rfl
    have kf := H.free (.here _ _) 0
    have hH := Lib.hid H
    clear H
    by_cases hge : n ≤ N + 1 + y
    · have d1 : decide ((n : Int) ≤ (N : Int) + 1 + y) = true := by simp; omega
      have hm := hat.out hge
      have e2 : ((N : Int) + 1 + y == n) = decide (N + 1 + y = n) := by
        rw [Bool.eq_iff_iff, beq_iff_eq, decide_eq_true_eq]; omega
      have hs := Lib.hid (hH.out.setCell 0 (.bool (metM N x n)))
      rw [hm] at hs
      have hm' := Lib.hid hm
      generalize decide (N + 1 + y = n) = b2 at *
      clear hge hm hat hnext
      cases q
      · gi_wp2_with fail
        have hs2 := hs.out
        rw [Bool.false_or] at hs2
        exact ⟨[.blk bs [.bool b2] 4, .blk bn [.int .u64 n] 22, winB p true N (U x)], ⟨rfl, by rw [hm'.out, Bool.false_or]⟩, hs2⟩
      · gi_wp2_with fail
        have hs2 := hs.out
        rw [Bool.true_or] at hs2
        exact ⟨[.blk bs [.bool true] 4, .blk bn [.int .u64 n] 22, winB p true N (U x)], ⟨rfl, by rw [hm'.out, Bool.true_or]⟩, hs2⟩
    · have d1 : decide ((n : Int) ≤ (N : Int) + 1 + y) = false := by simp; omega
      have hn2 := hnext.out (by omega)
      clear hge hat hnext
      gi_wp2_with fail
      exact ⟨_, ⟨rfl, hn2⟩, hH.out⟩
  · rintro V _ D ⟨rfl, hlt⟩ H
    have hres : metM N x n = q := by
      rw [← hq'.out]
      refine met_end hl'.out fun i hi => ?_
      obtain ⟨j, hj, rfl⟩ := List.getElem_of_mem hi
      exact hlt.out j hj (by simpa using hj)
    have hres' := Lib.hid hres
    have H2 := Lib.hid H
    simp only [behP, List.cons_append, List.nil_append] at H
    have k0 := H.cell (o := 0) (.there (.here _ _)) rfl
    clear hlt H hres
    simp only [Exit.inBlock, Exit.then]
    rename_i hK
    refine hK _ _ ?_
    clear hK
    gi_wp2_with (first | refine wpIn_label ?_ | refine scope_in ?_)
    repeat (first | rw [Exit.noGoto_ret] | gi_step)
    refine leaveS (v := .bool q) H2.out ?_ ?_
    · intro V H
      simp [results, Tryd.results10, go_sem]
    · intro V H
      exact ⟨by rw [hres'.out], H.re (.step (.there (.there (.here _ _))) (.step (.there (.there (.there (.here _ _)))) (.drop (.drop (.drop (.same _))))))⟩
  · rintro c i V _ D ⟨rfl, rfl⟩ H
    have H2 := Lib.hid H
    simp only [behP, List.cons_append, List.nil_append] at H
    have k0 := H.cell (o := 0) (.there (.here _ _)) rfl
    clear H
    gi_wp2_with (first | refine wpIn_label ?_ | refine scope_in ?_)
    repeat (first | rw [Exit.noGoto_ret] | gi_step)
    refine leaveS (v := .bool (metM N x n)) H2.out ?_ ?_
    · intro V H
      simp [results, Tryd.results10, go_sem]
    · intro V H
      exact ⟨rfl, H.re (.step (.there (.there (.here _ _))) (.step (.there (.there (.there (.here _ _)))) (.drop (.drop (.drop (.same _))))))⟩
theorem has_c {p N n : Nat} {x : BitVec 64} (W0 : World) {w : World} (H : SL w (winB p true N (U x) :: [.old W0 no])) (ht : Tab W0) (hN : (N : Int) ≤ 4611686018427389000) :
    Calls Tryd.prog 10 #[.pointer (some ⟨p, 0, none⟩), .int .u64 n] w fun e w' => e = .returned (.bool (metM N x n)) ∧ SL w' (winB p true N (U x) :: [.old W0 no]) := has_cS (fun h => h) W0 H ht hN
end Go.Proofs.YtkoajbmomipjkaaDoor
