/- The contracts beside other pieces of memory; the methods of none. -/
import Derived.Test.YtkoajbmomipjkaaDoorHoles
import Derived.Test.YtkoajbmomipjkaaDoorAlive
namespace Go.Proofs.YtkoajbmomipjkaaDoor
open Go.RowKit
set_option linter.unusedVariables false
attribute [local go_sem] Oper.semAt_some

/-- A step that turns one window alone, and makes new memory. -/
theorem SL.one {w w' : World} {p q : Pc} {L : List Pc} (h : SL w (p :: L)) (h' : SL w' [q, .old w p.foot]) (hf : ∀ b, q.foot b → p.foot b ∨ w.heap.size ≤ b) : SL w' (q :: L) :=
  h.upd (h'.kp (.there (.here _ _))) h'.head hf
theorem SL.alone {w : World} {p : Pc} {L : List Pc} (h : SL w (p :: L)) : SL w [p, .old w p.foot] :=
  ⟨fun q hq => by
    simp only [List.mem_cons, List.not_mem_nil, or_false] at hq
    rcases hq with rfl | rfl
    · exact h.head
    · exact Kp.refl _ w, by
    simp only [List.pairwise_cons, List.mem_cons, List.not_mem_nil, or_false, forall_eq, List.Pairwise.nil, and_true, false_imp_iff, implies_true]
    intro b hb hb2
    exact hb2.2 hb⟩

section
variable {p N : Nat} {x : BitVec 64} {L : List Pc} {w w0 : World}
theorem win_ne {b : Bool} {N m : Int} (H : SL w (winB p b N m :: L)) (ho : .old w0 no ∈ L) (ht : Tab w0) : ¬ (winB p b N m).foot 0 ∧ Tab w := by
  have h0 : 0 < w0.heap.size := cell_lt (ht 0 (by decide))
  refine ⟨fun h => ?_, ht.no (H.all _ (List.mem_cons_of_mem _ ho))⟩
  exact H.out h _ ho ⟨h0, fun h => h⟩

theorem has_L (H : SL w (winB p true N (U x) :: L)) (ho : .old w0 no ∈ L) (ht : Tab w0) (hN : (N : Int) ≤ 4611686018427389000) (n : Nat) :
    Calls Tryd.prog 10 #[.pointer (some ⟨p, 0, none⟩), .int .u64 n] w fun e w' => e = .returned (.bool (metM N x n)) ∧ SL w' (winB p true N (U x) :: L) := by
  obtain ⟨h1, h2⟩ := win_ne H ho ht
  exact (has_cS (n := n) h1 w H.alone h2 hN).mono fun e w' ⟨he, h'⟩ => ⟨he, H.one h' fun b hb => .inl hb⟩

theorem told_L {N2 : Nat} {x2 : BitVec 64} (H : SL w (winB p true N (U x) :: L)) (ho : .old w0 no ∈ L) (ht : Tab w0) (hg : Good 4611686018427387904 N x) (hg2 : Good 4611686018427387904 N2 x2) (hq : mayV N2 (U x2) = true) :
    Calls Tryd.prog 19 #[.pointer (some ⟨p, 0, none⟩), .int .u64 N2, .int .u64 (U x2)] w fun e w' =>
      e = .returned (.tuple #[.int .i64 (wrap64 (manyV (unionM N x N2 x2).1 (unionM N x N2 x2).2 - manyV N x)), .int .i64 0]) ∧ SL w' (winB p true ((unionM N x N2 x2).1 : Nat) (U (unionM N x N2 x2).2) :: L) := by
  obtain ⟨h1, h2⟩ := win_ne H ho ht
  exact (told_yes h1 w h2 H.alone hg hg2 hq).mono fun e w' ⟨he, h'⟩ => ⟨he, H.one h' fun b hb => .inl hb⟩

theorem holes_L (H : SL w (winB p true N (U x) :: L)) (ho : .old w0 no ∈ L) (ht : Tab w0) (hN : (N : Int) ≤ 4611686018427389000) :
    Calls Tryd.prog 15 #[.pointer (some ⟨p, 0, none⟩)] w fun e w' => ∃ a c, e = .returned (.slice a (holesM N x).length c) ∧
      SL w' (.own 22 1 (.slice a (holesM N x).length c) (holesM N x).length (uv (holesM N x)) :: winB p true N (U x) :: L) := by
  obtain ⟨h1, h2⟩ := win_ne H ho ht
  refine (holes_c h1 w h2 H.alone hN).mono ?_
  rintro e w' ⟨a, c, he, h'⟩
  refine ⟨a, c, he, ?_⟩
  have hk := h'.kp (.there (.there (.here _ _)))
  refine H.upds (Lq := [.own 22 1 (.slice a (holesM N x).length c) (holesM N x).length (uv (holesM N x)), winB p true N (U x)]) hk (h'.re (.step (.here _ _) (.step (.here _ _) (.drop (.same _))))) ?_
  intro q hq b hb
  simp only [List.mem_cons, List.not_mem_nil, or_false] at hq
  rcases hq with rfl | rfl
  · right
    have hap := h'.out hb (.old w (winB p true N (U x)).foot) (by simp)
    have hap2 := h'.out hb (winB p true N (U x)) (by simp)
    rcases Nat.lt_or_ge b w.heap.size with h3 | h3
    · exact (hap ⟨h3, hap2⟩).elim
    · exact h3
  · exact .inl hb

theorem alive_L (H : SL w L) (ho : .old w0 no ∈ L) (ht : Tab w0) : Calls Tryd.prog 8 #[] w fun e w' => e = .returned (.bool true) ∧ SL w' L :=
  (alive_c w w (ht.no (H.all _ ho)) (SL.start w)).mono fun e w' ⟨he, h'⟩ => ⟨he, H.quiet (h'.kp (.here _ _))⟩
end

/-! ### None -/
theorem none_meet (n : Int) (w : World) : Calls Tryd.prog 12 #[.pointer none, .int .u64 n] w fun e w' => e = .returned (.tuple #[.bool false, .int .i64 1]) ∧ w = w' := by
  have hn := Lib.hid (none_nil w)
  go_enter Tryd.func12, Tryd.ntmps12
  go_wp2_with fail
  refine hn.out.mono ?_
  rintro e w' ⟨rfl, rfl⟩
  go_wp2_with fail
  go_ret2
  exact ⟨rfl, rfl⟩
theorem none_last (w : World) : Calls Tryd.prog 16 #[.pointer none] w fun e w' => e = .returned (.tuple #[.int .u64 0, .bool false]) ∧ w = w' := by
  have hn := Lib.hid (none_nil w)
  go_enter Tryd.func16, Tryd.ntmps16
  go_wp2_with fail
  refine hn.out.mono ?_
  rintro e w' ⟨rfl, rfl⟩
  go_wp2_with fail
  go_ret2
  exact ⟨rfl, rfl⟩
theorem none_next (w : World) : Calls Tryd.prog 14 #[.pointer none] w fun e w' => e = .returned (.int .u64 0) ∧ w = w' := by
  have hn := Lib.hid (none_nil w)
  go_enter Tryd.func14, Tryd.ntmps14
  go_wp2_with fail
  refine hn.out.mono ?_
  rintro e w' ⟨rfl, rfl⟩
  go_wp2_with fail
  go_ret
  exact ⟨rfl, rfl⟩
theorem none_copy (w : World) : Calls Tryd.prog 18 #[.pointer none] w fun e w' => e = .returned (.pointer none) ∧ w = w' := by
  have hn := Lib.hid (none_nil w)
  go_enter Tryd.func18, Tryd.ntmps18
  go_wp2_with fail
  refine hn.out.mono ?_
  rintro e w' ⟨rfl, rfl⟩
  go_wp2_with fail
  go_ret
  exact ⟨rfl, rfl⟩
theorem none_has (n : Int) {w : World} {L : List Pc} (H : SL w L) : Calls Tryd.prog 10 #[.pointer none, .int .u64 n] w fun e w' => e = .returned (.bool false) ∧ SL w' L := by
  have hn := Lib.hid (fun w => none_nil w)
  have H1 := Lib.hid (H.alloc [.int .u64 n] 22)
  clear H
  refine calls_of_marks Tryd.func10 rfl ?_
  simp only [Tryd.ntmps10, List.size_toArray, List.length_cons, List.length_nil, Nat.reduceAdd, Nat.reduceSub, Array.replicate_succ, Array.replicate_zero, List.push_toArray, List.append_toArray, List.nil_append, List.cons_append]
  gi_wp2_with (first | refine wpIn_label ?_ | refine scope_in ?_)
  refine ⟨trivial, rfl, (calls_in (hn.out _)).mono ?_⟩
  rintro e w2 ⟨rfl, rfl⟩
  gi_wp2_with (first | refine wpIn_label ?_ | refine scope_in ?_)
  repeat (first | rw [Exit.noGoto_ret] | gi_step)
  refine leave_ret (v := .bool false) ?_ ?_
  · simp [results, Tryd.results10, go_sem]
  · exact ⟨rfl, H1.out.re (.drop (.same _))⟩

/-! ### The zero value -/
section
variable {p : Nat} {N m : Int} {L : List Pc} {w : World}
theorem zero_told (H : SL w (winB p false N m :: L)) (n k : Int) : Calls Tryd.prog 19 #[.pointer (some ⟨p, 0, none⟩), .int .u64 n, .int .u64 k] w fun e w' => e = .returned (.tuple #[.int .i64 0, .int .i64 1]) ∧ w = w' := by
  have hn := Lib.hid (none_c H)
  clear H
  go_enter Tryd.func19, Tryd.ntmps19
  go_wp2_with fail
  refine hn.out.mono ?_
  rintro e w' ⟨rfl, rfl⟩
  go_wp2_with fail
  go_ret2
  exact ⟨rfl, rfl⟩
theorem zero_room (H : SL w (winB p false N m :: L)) (n : Int) : Calls Tryd.prog 11 #[.pointer (some ⟨p, 0, none⟩), .int .u64 n] w fun e w' => e = .returned (.bool false) ∧ w = w' := by
  have hn := Lib.hid (none_c H)
  clear H
  go_enter Tryd.func11, Tryd.ntmps11
  go_wp2_with fail
  refine hn.out.mono ?_
  rintro e w' ⟨rfl, rfl⟩
  go_wp2_with fail
  go_ret
  exact ⟨rfl, rfl⟩
theorem zero_mask (H : SL w (winB p false N m :: L)) : Calls Tryd.prog 17 #[.pointer (some ⟨p, 0, none⟩)] w fun e w' => e = .returned (.int .u64 0) ∧ w = w' := by
  have hn := Lib.hid (none_c H)
  clear H
  go_enter Tryd.func17, Tryd.ntmps17
  go_wp2_with fail
  refine hn.out.mono ?_
  rintro e w' ⟨rfl, rfl⟩
  go_wp2_with fail
  go_ret
  exact ⟨rfl, rfl⟩
theorem zero_holes (H : SL w (winB p false N m :: L)) : Calls Tryd.prog 15 #[.pointer (some ⟨p, 0, none⟩)] w fun e w' => e = .returned (.slice none 0 0) ∧ w = w' := by
  have hn := Lib.hid (none_c H)
  clear H
  refine calls_of_marks Tryd.func15 rfl ?_
  simp only [Tryd.ntmps15, List.size_toArray, List.length_cons, List.length_nil, Nat.reduceAdd, Nat.reduceSub, Array.replicate_succ, Array.replicate_zero, List.push_toArray, List.append_toArray, List.nil_append, List.cons_append]
  gi_wp2_with (first | refine wpIn_label ?_ | refine scope_in ?_)
  refine ⟨trivial, rfl, (calls_in hn.out).mono ?_⟩
  rintro e w' ⟨rfl, rfl⟩
  gi_wp2_with (first | refine wpIn_label ?_ | refine scope_in ?_)
  repeat (first | rw [Exit.noGoto_ret] | gi_step)
  refine leave_ret (v := .slice none 0 0) ?_ ⟨rfl, rfl⟩
  simp [results, Tryd.results15, go_sem]
end
end Go.Proofs.YtkoajbmomipjkaaDoor
