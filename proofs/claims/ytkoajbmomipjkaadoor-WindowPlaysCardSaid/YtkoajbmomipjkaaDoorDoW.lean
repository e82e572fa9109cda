/- The walk of the law's 'do' (printed by gendo.py). -/
import Derived.Test.YtkoajbmomipjkaaDoorRefE
import Derived.Test.YtkoajbmomipjkaaDoorKonst
import Derived.Test.YtkoajbmomipjkaaDoorOrder
import Derived.StillTailTactics
namespace Go.Proofs.YtkoajbmomipjkaaDoor
open Go.RowKit
set_option linter.unusedVariables false

/-- Meet, of any number; Told, of anything. -/
theorem meet_some {p N n : Nat} {x : BitVec 64} {L : List Pc} {w w0 : World} (H : SL w (winB p true (N : Int) (U x) :: L)) (ho : .old w0 no ∈ L) (ht : Tab w0) (hg : Good 4611686018427387904 N x) :
    Calls Tryd.prog 12 #[.pointer (some ⟨p, 0, none⟩), .int .u64 n] w fun e w' => ∃ (b : Bool) (er : Int) (N' : Nat) (x' : BitVec 64), e = .returned (.tuple #[.bool b, .int .i64 er]) ∧ Good 4611686018427387904 N' x' ∧ SL w' (winB p true (N' : Int) (U x') :: L) := by
  have hN := hg.next
  cases hr : roomM (N : Int) (n : Int) with
  | false =>
    refine (meet_no H hr (by omega) (by omega)).mono ?_
    rintro e w' ⟨rfl, rfl⟩
    exact ⟨_, _, N, x, rfl, hg, H⟩
  | true =>
    have h2 : n < N + 64 ∧ n < 4611686018427387904 := by
      unfold roomM at hr
      rw [Bool.and_eq_true, decide_eq_true_eq, decide_eq_true_eq] at hr
      omega
    refine (meet_yes H (ht.no (H.all (.old w0 no) (by simp [ho]))) hg.full (by omega) hr).mono ?_
    rintro e w' ⟨rfl, H'⟩
    exact ⟨_, _, _, _, rfl, hg.with h2.1 h2.2, H'⟩
theorem told_some {p N N2 : Nat} {x x2 : BitVec 64} {L : List Pc} {w w0 : World} (H : SL w (winB p true (N : Int) (U x) :: L)) (ho : .old w0 no ∈ L) (ht : Tab w0) (hg : Good 4611686018427387904 N x) :
    Calls Tryd.prog 19 #[.pointer (some ⟨p, 0, none⟩), .int .u64 N2, .int .u64 (U x2)] w fun e w' => ∃ (a er : Int) (N' : Nat) (x' : BitVec 64), e = .returned (.tuple #[.int .i64 a, .int .i64 er]) ∧ SL w' (winB p true (N' : Int) (U x') :: L) := by
  cases hq : mayV N2 (U x2) with
  | false =>
    refine (told_no H (U_nn x2) (U_lt64 x2) hq).mono ?_
    rintro e w' ⟨rfl, h⟩
    exact ⟨_, _, N, x, rfl, h⟩
  | true =>
    refine (told_L H ho ht hg ((may_good _ _).1 hq) hq).mono ?_
    rintro e w' ⟨rfl, h⟩
    exact ⟨_, _, _, _, rfl, h⟩

/-- What 'do' leaves. -/
def DoPost (L : List Pc) (e : Ending) (w' : World) : Prop := ∃ (p' N' : Nat) (x' : BitVec 64), e = .returned (.tuple #[.pointer (some ⟨p', 0, none⟩), .agg #[.int .u64 N', .int .u64 (U x')], .bool true]) ∧
  Good 4611686018427387904 N' x' ∧ SL w' (winB p' true N' (U x') :: L)

set_option maxRecDepth 100000 in
set_option maxHeartbeats 20000000 in
theorem do_c (k : Int) (n : Nat) (y : BitVec 64) (p N : Nat) (x : BitVec 64) {L : List Pc} {w w0 : World} (hn : n ≤ 18446744073709551615) (H : SL w (winB p true (N : Int) (U x) :: L)) (ho : .old w0 no ∈ L) (ht : Tab w0) (hg : Good 4611686018427387904 N x) :
    Calls Tryd.prog 22 #[.pointer (some ⟨p, 0, none⟩), .agg #[.int .u64 N, .int .u64 (U x)], .agg #[.int .i64 k, .int .u64 n, .int .u64 (U y)]] w fun e w' => DoPost L e w' := by
  have hN := hg.next
  have h1 := ((H.alloc [.int .u64 N, .int .u64 (U x)] 50).alloc [.int .i64 k, .int .u64 n, .int .u64 (U y)] 55).alloc [.int .u64 0, .int .u64 0] 50
  have hs1 : (w.alloc (.cells [Value.int .u64 N, .int .u64 (U x)].toArray 50)).heap.size = w.heap.size + 1 := by simp
  have hs2 : ((w.alloc (.cells [Value.int .u64 N, .int .u64 (U x)].toArray 50)).alloc (.cells [Value.int .i64 k, .int .u64 n, .int .u64 (U y)].toArray 55)).heap.size = w.heap.size + 1 + 1 := by simp
  rw [hs1, hs2] at h1
  have hH0 := Lib.hid h1
  have hg' := Lib.hid hg
  have ht' := Lib.hid ht
  have ho' := Lib.hid ho
  have hn' : Hid (n ≤ 18446744073709551615) := Lib.hid hn
  have hN5 : Hid ((N : Int) ≤ 4611686018427389000) := Lib.hid (by omega)
  clear h1 hs1 hs2 H ho ht hg hn hN
  go_enter Tryd.func22, Tryd.ntmps22
  by_cases hk0 : k = 0
  · have e0 : (k == 0) = true := by simp; omega
    clear hk0
    go_wp2_with fail
    generalize ((w.alloc (.cells #[.int .u64 N, .int .u64 (U x)] 50)).alloc (.cells #[.int .i64 k, .int .u64 n, .int .u64 (U y)] 55)).alloc (.cells #[.int .u64 0, .int .u64 0] 50) = wa at *
    generalize w.heap.size + 1 + 1 = b7 at *
    generalize w.heap.size + 1 = b5 at *
    generalize w.heap.size = b4 at *
    have H := hH0.out
    clear hH0
    cases hr : roomM (N : Int) (n : Int) with
    | false =>
      replace H := H.re (.step (.there (.there (.there (.here _ _)))) (.same _))
      have c := Lib.hid (keepL H (meet_no H hr (by omega) hN5.out))
      have hH := Lib.hid H
      clear H
      refine c.out.mono ?_
      rintro e W1 ⟨rfl, H⟩
      clear c hH
      replace H := H.re (.step (.there (.here _ _)) (.step (.there (.here _ _)) (.step (.there (.here _ _)) (.step (.here _ _) (.same _)))))
      have hrm := Lib.hid (refMeet_c (n := n) hg'.out hn'.out)
      rw [hr] at hrm
      have c0 := H.cell (o := 0) (.there (.there (.here _ _))) rfl
      have c1 := H.cell (o := 1) (.there (.there (.here _ _))) rfl
      have d0 := H.cell (o := 0) (.there (.here _ _)) rfl
      have d1 := H.cell (o := 1) (.there (.here _ _)) rfl
      have d2 := H.cell (o := 2) (.there (.here _ _)) rfl
      have z0 := H.cell (o := 0) (.here _ _) rfl
      have z1 := H.cell (o := 1) (.here _ _) rfl
      have hH := Lib.hid H
      clear H hr
      go_wp2_with fail
      refine (hrm.out _).mono ?_
      rintro e W2 ⟨(⟨-, rfl⟩ | ⟨h, -⟩), k2⟩
      rotate_left
      · cases h
      clear hrm
      have h2 := (hH.out.quiet k2).alloc [.int .u64 N, .int .u64 (U x)] 50
      clear hH k2 c0 c1 d0 d1 d2 z0 z1
      have c0 := h2.cell (o := 0) (.there (.there (.there (.here _ _)))) rfl
      have c1 := h2.cell (o := 1) (.there (.there (.there (.here _ _)))) rfl
      have fb := fun o => h2.free (.there (.there (.there (.here _ _)))) o
      have hh2 := Lib.hid h2
      clear h2
      go_wp2_with fail
      have H := ((hh2.out.re (L' := .blk b4 [.int .u64 N, .int .u64 (U x)] 50 :: .blk b7 [.int .u64 0, .int .u64 0] 50 :: winB p true (N : Int) (U x) :: .blk b5 [.int .i64 k, .int .u64 n, .int .u64 (U y)] 55 :: L)
        (.step (.there (.there (.there (.here _ _)))) (.step (.there (.here _ _)) (.step (.there (.there (.here _ _))) (.step (.there (.here _ _)) (.drop (.same _))))))).setCell 0 (.int .u64 N)).setCell 1 (.int .u64 (U x))
      clear hh2 c0 c1 fb
      generalize ((W2.alloc (.cells #[.int .u64 N, .int .u64 (U x)] 50)).setCell ⟨b4, 0, none⟩ (.int .u64 N)).setCell ⟨b4, 1, none⟩ (.int .u64 (U x)) = w7 at *
      replace H := H.re (.step (.there (.here _ _)) (.same _))
      have hH := Lib.hid H
      clear H
      refine wp_region_held_drew (S := (fun W => W.cell? ⟨b4, 0, none⟩ = some (.int .u64 N) ∧ W.cell? ⟨b4, 1, none⟩ = some (.int .u64 (U x)))) (by kernel_rfl) ?_ (fun hHeld => ?_)
      · have H := hH.out.drew
        exact ⟨H.cell (o := 0) (.there (.here _ _)) rfl, H.cell (o := 1) (.there (.here _ _)) rfl⟩
      have H := hH.out.drew
      generalize World.drew w7 = w8 at *
      clear hH
      refine takeL (i := 0) rfl (by kernel_rfl) (by kernel_rfl) (by kernel_rfl) (fun _ _ _ _ h => h) hHeld ?_ (Or.inl ⟨by rfl, ?_⟩) ?_
      rotate_left
      · intro W hW
        (try dsimp only at hW)
        first | (go_simp; done) | (go_simp; with_reducible rfl)
      ((try simp only [Act.put]); (try simp only [List.setIfInBounds_toArray]); (try simp only [List.set_cons_succ]); (try simp only [List.set_cons_zero]))
      refine takeL (i := 1) rfl (by kernel_rfl) (by kernel_rfl) (by kernel_rfl) (fun _ _ _ _ h => h) hHeld ?_ (Or.inl ⟨by rfl, ?_⟩) ?_
      rotate_left
      · intro W hW
        (try dsimp only at hW)
        first | (go_simp; done) | (go_simp; with_reducible rfl)
      ((try simp only [Act.put]); (try simp only [List.setIfInBounds_toArray]); (try simp only [List.set_cons_succ]); (try simp only [List.set_cons_zero]))
      refine takeL (i := 2) rfl (by kernel_rfl) (by kernel_rfl) (by kernel_rfl) (fun _ _ _ _ h => h) hHeld ?_ (Or.inl ⟨by rfl, ?_⟩) ?_
      rotate_left
      · intro W hW
        (try dsimp only at hW)
        first | (go_simp; done) | (go_simp; with_reducible rfl)
      ((try simp only [Act.put]); (try simp only [List.setIfInBounds_toArray]); (try simp only [List.set_cons_succ]); (try simp only [List.set_cons_zero]))
      refine takeL (i := 3) rfl (by kernel_rfl) (by kernel_rfl) (by kernel_rfl) (fun _ _ _ _ h => h) hHeld ?_ (Or.inl ⟨by rfl, ?_⟩) ?_
      rotate_left
      · intro W hW
        (try dsimp only at hW)
        first | (go_simp; done) | (go_simp; with_reducible rfl)
      ((try simp only [Act.put]); (try simp only [List.setIfInBounds_toArray]); (try simp only [List.set_cons_succ]); (try simp only [List.set_cons_zero]))
      refine takeL (i := 4) rfl (by kernel_rfl) (by kernel_rfl) (by kernel_rfl) (fun _ _ _ _ h => h) hHeld ?_ (Or.inl ⟨by rfl, ?_⟩) ?_
      rotate_left
      · intro W hW
        (try dsimp only at hW)
        first | (go_simp; done) | (go_simp; with_reducible rfl)
      ((try simp only [Act.put]); (try simp only [List.setIfInBounds_toArray]); (try simp only [List.set_cons_succ]); (try simp only [List.set_cons_zero]))
      refine takeL (i := 6) rfl (by kernel_rfl) (by kernel_rfl) (by kernel_rfl) (fun _ _ _ _ h => h) hHeld ?_ (Or.inl ⟨by rfl, ?_⟩) ?_
      rotate_left
      · intro W hW
        (try dsimp only at hW)
        first | (go_simp; done) | (go_simp; with_reducible rfl)
      ((try simp only [Act.put]); (try simp only [List.setIfInBounds_toArray]); (try simp only [List.set_cons_succ]); (try simp only [List.set_cons_zero]))
      refine takeL (i := 7) rfl (by kernel_rfl) (by kernel_rfl) (by kernel_rfl) (fun _ _ _ _ h => h) hHeld ?_ (Or.inl ⟨by rfl, ?_⟩) ?_
      rotate_left
      · intro W hW
        (try dsimp only at hW)
        first | (go_simp; done) | (go_simp; with_reducible rfl)
      ((try simp only [Act.put]); (try simp only [List.setIfInBounds_toArray]); (try simp only [List.set_cons_succ]); (try simp only [List.set_cons_zero]))
      refine callL (i := 5) rfl (by kernel_rfl) (fun K hK => ?_)
      rw [if_pos (by rfl)]
      go_simp
      refine (next_c (H.re (.step (.there (.there (.here _ _))) (.same _)))).mono ?_
      rintro e w' ⟨rfl, rfl⟩
      clear hHeld
      refine hK.out _ _ ?_ (fun hHeld => ?_)
      · exact ⟨H.cell (o := 0) (.there (.here _ _)) rfl, H.cell (o := 1) (.there (.here _ _)) rfl⟩
      clear hK K
      ((try simp only [Act.put]); (try simp only [List.setIfInBounds_toArray]); (try simp only [List.set_cons_succ]); (try simp only [List.set_cons_zero]))
      refine takeL (i := 8) rfl (by kernel_rfl) (by kernel_rfl) (by kernel_rfl) (fun _ _ _ _ h => h) hHeld ?_ (Or.inl ⟨by rfl, ?_⟩) ?_
      rotate_left
      · intro W hW
        (try dsimp only at hW)
        first | (go_simp; done) | (go_simp; with_reducible rfl)
      ((try simp only [Act.put]); (try simp only [List.setIfInBounds_toArray]); (try simp only [List.set_cons_succ]); (try simp only [List.set_cons_zero]))
      refine takeL (i := 9) rfl (by kernel_rfl) (by kernel_rfl) (by kernel_rfl) (fun _ _ _ _ h => h) hHeld ?_ (Or.inl ⟨by rfl, ?_⟩) ?_
      rotate_left
      · intro W hW
        (try dsimp only at hW)
        first | (go_simp; done) | (go_simp; with_reducible rfl)
      ((try simp only [Act.put]); (try simp only [List.setIfInBounds_toArray]); (try simp only [List.set_cons_succ]); (try simp only [List.set_cons_zero]))
      refine takeL (i := 10) rfl (by kernel_rfl) (by kernel_rfl) (by kernel_rfl) (fun _ _ _ _ h => h) hHeld ?_ (Or.inl ⟨by rfl, ?_⟩) ?_
      rotate_left
      · intro W hW
        (try dsimp only at hW)
        first | (go_simp; done) | (go_simp; with_reducible rfl)
      ((try simp only [Act.put]); (try simp only [List.setIfInBounds_toArray]); (try simp only [List.set_cons_succ]); (try simp only [List.set_cons_zero]))
      refine takeL (i := 11) rfl (by kernel_rfl) (by kernel_rfl) (by kernel_rfl) (fun _ _ _ _ h => h) hHeld ?_ (Or.inl ⟨by rfl, ?_⟩) ?_
      rotate_left
      · intro W hW
        (try dsimp only at hW)
        first | (go_simp; done) | (go_simp; with_reducible rfl)
      ((try simp only [Act.put]); (try simp only [List.setIfInBounds_toArray]); (try simp only [List.set_cons_succ]); (try simp only [List.set_cons_zero]))
      refine takeL (i := 13) rfl (by kernel_rfl) (by kernel_rfl) (by kernel_rfl) (fun _ _ _ _ h => h) hHeld ?_ (Or.inl ⟨by rfl, ?_⟩) ?_
      rotate_left
      · intro W hW
        (try dsimp only at hW)
        first | (go_simp; done) | (go_simp; with_reducible rfl)
      ((try simp only [Act.put]); (try simp only [List.setIfInBounds_toArray]); (try simp only [List.set_cons_succ]); (try simp only [List.set_cons_zero]))
      refine takeL (i := 14) rfl (by kernel_rfl) (by kernel_rfl) (by kernel_rfl) (fun _ _ _ _ h => h) hHeld ?_ (Or.inl ⟨by rfl, ?_⟩) ?_
      rotate_left
      · intro W hW
        (try dsimp only at hW)
        first | (go_simp; done) | (go_simp; with_reducible rfl)
      ((try simp only [Act.put]); (try simp only [List.setIfInBounds_toArray]); (try simp only [List.set_cons_succ]); (try simp only [List.set_cons_zero]))
      refine callL (i := 12) rfl (by kernel_rfl) (fun K hK => ?_)
      rw [if_pos (by rfl)]
      go_simp
      refine (mask_c (H.re (.step (.there (.there (.here _ _))) (.same _)))).mono ?_
      rintro e w' ⟨rfl, rfl⟩
      clear hHeld
      refine hK.out _ _ ?_ (fun hHeld => ?_)
      · exact ⟨H.cell (o := 0) (.there (.here _ _)) rfl, H.cell (o := 1) (.there (.here _ _)) rfl⟩
      clear hK K
      ((try simp only [Act.put]); (try simp only [List.setIfInBounds_toArray]); (try simp only [List.set_cons_succ]); (try simp only [List.set_cons_zero]))
      refine takeL (i := 15) rfl (by kernel_rfl) (by kernel_rfl) (by kernel_rfl) (fun _ _ _ _ h => h) hHeld ?_ (Or.inl ⟨by rfl, ?_⟩) ?_
      rotate_left
      · intro W hW
        (try dsimp only at hW)
        first | (go_simp; done) | (go_simp; with_reducible rfl)
      ((try simp only [Act.put]); (try simp only [List.setIfInBounds_toArray]); (try simp only [List.set_cons_succ]); (try simp only [List.set_cons_zero]))
      refine takeL (i := 16) rfl (by kernel_rfl) (by kernel_rfl) (by kernel_rfl) (fun _ _ _ _ h => h) hHeld ?_ (Or.inl ⟨by rfl, ?_⟩) ?_
      rotate_left
      · intro W hW
        (try dsimp only at hW)
        first | (go_simp; done) | (go_simp; with_reducible rfl)
      ((try simp only [Act.put]); (try simp only [List.setIfInBounds_toArray]); (try simp only [List.set_cons_succ]); (try simp only [List.set_cons_zero]))
      refine takeL (i := 17) rfl (by kernel_rfl) (by kernel_rfl) (by kernel_rfl) (fun _ _ _ _ h => h) hHeld ?_ (Or.inl ⟨by rfl, ?_⟩) ?_
      rotate_left
      · intro W hW
        (try dsimp only at hW)
        first | (go_simp; done) | (go_simp; with_reducible rfl)
      ((try simp only [Act.put]); (try simp only [List.setIfInBounds_toArray]); (try simp only [List.set_cons_succ]); (try simp only [List.set_cons_zero]))
      refine callL (i := 18) rfl (by kernel_rfl) (fun K hK => ?_)
      rw [if_pos (by rfl)]
      have z0 := H.cell (o := 0) (.here _ _) rfl
      have z1 := H.cell (o := 1) (.here _ _) rfl
      have fz := fun o => H.free (.here _ _) o
      go_simp
      have H9 := (H.setCell 0 (.int .u64 N)).setCell 1 (.int .u64 (U x))
      generalize (w8.setCell ⟨b7, 0, none⟩ (.int .u64 N)).setCell ⟨b7, 1, none⟩ (.int .u64 (U x)) = w9 at *
      clear H z0 z1 fz hHeld
      have H := H9
      clear H9
      refine hK.out _ _ ?_ (fun hHeld => ?_)
      · exact ⟨H.cell (o := 0) (.there (.here _ _)) rfl, H.cell (o := 1) (.there (.here _ _)) rfl⟩
      clear hK K
      ((try simp only [Act.put]); (try simp only [List.setIfInBounds_toArray]); (try simp only [List.set_cons_succ]); (try simp only [List.set_cons_zero]))
      refine takeL (i := 19) rfl (by kernel_rfl) (by kernel_rfl) (by kernel_rfl) (fun _ _ _ _ h => h) hHeld ?_ (Or.inl ⟨by rfl, ?_⟩) ?_
      rotate_left
      · intro W hW
        (try dsimp only at hW)
        first | (go_simp; done) | (go_simp; with_reducible rfl)
      ((try simp only [Act.put]); (try simp only [List.setIfInBounds_toArray]); (try simp only [List.set_cons_succ]); (try simp only [List.set_cons_zero]))
      refine wpAnyH_done (by kernel_rfl) ?_ _
      have h8 := Lib.hid H
      clear H hHeld
      go_wp2_with fail
      have k0 := h8.out.cell (o := 0) (.here _ _) rfl
      have k1 := h8.out.cell (o := 1) (.here _ _) rfl
      refine bodyPost_ret (v := .tuple #[.pointer (some ⟨p, 0, none⟩), .agg #[.int .u64 N, .int .u64 (U x)], .bool true]) ?_ rfl ?_
      · simp [results, Tryd.results22, go_sem, k0, k1]
      · exact ⟨p, N, x, rfl, hg'.out, h8.out.re (.step (.there (.there (.here _ _))) (.drop (.drop (.drop (.same _)))))⟩
    | true =>
      have hlt : n < N + 64 ∧ n < 4611686018427387904 := by
        unfold roomM at hr
        rw [Bool.and_eq_true, decide_eq_true_eq, decide_eq_true_eq] at hr
        omega
      have hgw := Lib.hid (hg'.out.with hlt.1 hlt.2)
      have hmy := Lib.hid (fun V L (h : SL V (winB p true (N : Int) (U x) :: L)) (ht : Tab V) => meet_yes h ht hg'.out.full hN5.out hr)
      have hrm := Lib.hid (refMeet_c (n := n) hg'.out hn'.out)
      rw [hr] at hrm
      generalize withM N x n = z at *
      obtain ⟨N', x'⟩ := z
      dsimp only at hgw hmy hrm
      generalize metM N x n = bm at *
      clear hlt hr
      replace H := H.re (.step (.there (.there (.there (.here _ _)))) (.same _))
      have c := Lib.hid (hmy.out _ _ H (ht'.out.no (H.all (.old w0 no) (by simp [ho'.out]))))
      have hH := Lib.hid H
      clear H
      refine c.out.mono ?_
      rintro e W1 ⟨rfl, H⟩
      clear c hH
      clear hmy
      replace H := H.re (.step (.there (.here _ _)) (.step (.there (.here _ _)) (.step (.there (.here _ _)) (.step (.here _ _) (.same _)))))
      have c0 := H.cell (o := 0) (.there (.there (.here _ _))) rfl
      have c1 := H.cell (o := 1) (.there (.there (.here _ _))) rfl
      have d0 := H.cell (o := 0) (.there (.here _ _)) rfl
      have d1 := H.cell (o := 1) (.there (.here _ _)) rfl
      have d2 := H.cell (o := 2) (.there (.here _ _)) rfl
      have z0 := H.cell (o := 0) (.here _ _) rfl
      have z1 := H.cell (o := 1) (.here _ _) rfl
      have hH := Lib.hid H
      clear H
      go_wp2_with fail
      refine (hrm.out _).mono ?_
      rintro e W2 ⟨(⟨h, -⟩ | ⟨-, rfl⟩), k2⟩
      · cases h
      clear hrm
      have h2 := (hH.out.quiet k2).alloc [.int .u64 N', .int .u64 (U x')] 50
      clear hH k2 c0 c1 d0 d1 d2 z0 z1
      have c0 := h2.cell (o := 0) (.there (.there (.there (.here _ _)))) rfl
      have c1 := h2.cell (o := 1) (.there (.there (.there (.here _ _)))) rfl
      have fb := fun o => h2.free (.there (.there (.there (.here _ _)))) o
      have hh2 := Lib.hid h2
      clear h2
      go_wp2_with fail
      have H := ((hh2.out.re (L' := .blk b4 [.int .u64 N, .int .u64 (U x)] 50 :: .blk b7 [.int .u64 0, .int .u64 0] 50 :: winB p true (N' : Int) (U x') :: .blk b5 [.int .i64 k, .int .u64 n, .int .u64 (U y)] 55 :: L)
        (.step (.there (.there (.there (.here _ _)))) (.step (.there (.here _ _)) (.step (.there (.there (.here _ _))) (.step (.there (.here _ _)) (.drop (.same _))))))).setCell 0 (.int .u64 N')).setCell 1 (.int .u64 (U x'))
      clear hh2 c0 c1 fb
      generalize ((W2.alloc (.cells #[.int .u64 N', .int .u64 (U x')] 50)).setCell ⟨b4, 0, none⟩ (.int .u64 N')).setCell ⟨b4, 1, none⟩ (.int .u64 (U x')) = w7 at *
      replace H := H.re (.step (.there (.here _ _)) (.same _))
      have hH := Lib.hid H
      clear H
      refine wp_region_held_drew (S := (fun W => W.cell? ⟨b4, 0, none⟩ = some (.int .u64 N') ∧ W.cell? ⟨b4, 1, none⟩ = some (.int .u64 (U x')))) (by kernel_rfl) ?_ (fun hHeld => ?_)
      · have H := hH.out.drew
        exact ⟨H.cell (o := 0) (.there (.here _ _)) rfl, H.cell (o := 1) (.there (.here _ _)) rfl⟩
      have H := hH.out.drew
      generalize World.drew w7 = w8 at *
      clear hH
      refine takeL (i := 0) rfl (by kernel_rfl) (by kernel_rfl) (by kernel_rfl) (fun _ _ _ _ h => h) hHeld ?_ (Or.inl ⟨by rfl, ?_⟩) ?_
      rotate_left
      · intro W hW
        (try dsimp only at hW)
        first | (go_simp; done) | (go_simp; with_reducible rfl)
      ((try simp only [Act.put]); (try simp only [List.setIfInBounds_toArray]); (try simp only [List.set_cons_succ]); (try simp only [List.set_cons_zero]))
      refine takeL (i := 1) rfl (by kernel_rfl) (by kernel_rfl) (by kernel_rfl) (fun _ _ _ _ h => h) hHeld ?_ (Or.inl ⟨by rfl, ?_⟩) ?_
      rotate_left
      · intro W hW
        (try dsimp only at hW)
        first | (go_simp; done) | (go_simp; with_reducible rfl)
      ((try simp only [Act.put]); (try simp only [List.setIfInBounds_toArray]); (try simp only [List.set_cons_succ]); (try simp only [List.set_cons_zero]))
      refine takeL (i := 2) rfl (by kernel_rfl) (by kernel_rfl) (by kernel_rfl) (fun _ _ _ _ h => h) hHeld ?_ (Or.inl ⟨by rfl, ?_⟩) ?_
      rotate_left
      · intro W hW
        (try dsimp only at hW)
        first | (go_simp; done) | (go_simp; with_reducible rfl)
      ((try simp only [Act.put]); (try simp only [List.setIfInBounds_toArray]); (try simp only [List.set_cons_succ]); (try simp only [List.set_cons_zero]))
      refine takeL (i := 3) rfl (by kernel_rfl) (by kernel_rfl) (by kernel_rfl) (fun _ _ _ _ h => h) hHeld ?_ (Or.inl ⟨by rfl, ?_⟩) ?_
      rotate_left
      · intro W hW
        (try dsimp only at hW)
        first | (go_simp; done) | (go_simp; with_reducible rfl)
      ((try simp only [Act.put]); (try simp only [List.setIfInBounds_toArray]); (try simp only [List.set_cons_succ]); (try simp only [List.set_cons_zero]))
      refine takeL (i := 4) rfl (by kernel_rfl) (by kernel_rfl) (by kernel_rfl) (fun _ _ _ _ h => h) hHeld ?_ (Or.inl ⟨by rfl, ?_⟩) ?_
      rotate_left
      · intro W hW
        (try dsimp only at hW)
        first | (go_simp; done) | (go_simp; with_reducible rfl)
      ((try simp only [Act.put]); (try simp only [List.setIfInBounds_toArray]); (try simp only [List.set_cons_succ]); (try simp only [List.set_cons_zero]))
      refine takeL (i := 6) rfl (by kernel_rfl) (by kernel_rfl) (by kernel_rfl) (fun _ _ _ _ h => h) hHeld ?_ (Or.inl ⟨by rfl, ?_⟩) ?_
      rotate_left
      · intro W hW
        (try dsimp only at hW)
        first | (go_simp; done) | (go_simp; with_reducible rfl)
      ((try simp only [Act.put]); (try simp only [List.setIfInBounds_toArray]); (try simp only [List.set_cons_succ]); (try simp only [List.set_cons_zero]))
      refine takeL (i := 7) rfl (by kernel_rfl) (by kernel_rfl) (by kernel_rfl) (fun _ _ _ _ h => h) hHeld ?_ (Or.inl ⟨by rfl, ?_⟩) ?_
      rotate_left
      · intro W hW
        (try dsimp only at hW)
        first | (go_simp; done) | (go_simp; with_reducible rfl)
      ((try simp only [Act.put]); (try simp only [List.setIfInBounds_toArray]); (try simp only [List.set_cons_succ]); (try simp only [List.set_cons_zero]))
      refine callL (i := 5) rfl (by kernel_rfl) (fun K hK => ?_)
      rw [if_pos (by rfl)]
      go_simp
      refine (next_c (H.re (.step (.there (.there (.here _ _))) (.same _)))).mono ?_
      rintro e w' ⟨rfl, rfl⟩
      clear hHeld
      refine hK.out _ _ ?_ (fun hHeld => ?_)
      · exact ⟨H.cell (o := 0) (.there (.here _ _)) rfl, H.cell (o := 1) (.there (.here _ _)) rfl⟩
      clear hK K
      ((try simp only [Act.put]); (try simp only [List.setIfInBounds_toArray]); (try simp only [List.set_cons_succ]); (try simp only [List.set_cons_zero]))
      refine takeL (i := 8) rfl (by kernel_rfl) (by kernel_rfl) (by kernel_rfl) (fun _ _ _ _ h => h) hHeld ?_ (Or.inl ⟨by rfl, ?_⟩) ?_
      rotate_left
      · intro W hW
        (try dsimp only at hW)
        first | (go_simp; done) | (go_simp; with_reducible rfl)
      ((try simp only [Act.put]); (try simp only [List.setIfInBounds_toArray]); (try simp only [List.set_cons_succ]); (try simp only [List.set_cons_zero]))
      refine takeL (i := 9) rfl (by kernel_rfl) (by kernel_rfl) (by kernel_rfl) (fun _ _ _ _ h => h) hHeld ?_ (Or.inl ⟨by rfl, ?_⟩) ?_
      rotate_left
      · intro W hW
        (try dsimp only at hW)
        first | (go_simp; done) | (go_simp; with_reducible rfl)
      ((try simp only [Act.put]); (try simp only [List.setIfInBounds_toArray]); (try simp only [List.set_cons_succ]); (try simp only [List.set_cons_zero]))
      refine takeL (i := 10) rfl (by kernel_rfl) (by kernel_rfl) (by kernel_rfl) (fun _ _ _ _ h => h) hHeld ?_ (Or.inl ⟨by rfl, ?_⟩) ?_
      rotate_left
      · intro W hW
        (try dsimp only at hW)
        first | (go_simp; done) | (go_simp; with_reducible rfl)
      ((try simp only [Act.put]); (try simp only [List.setIfInBounds_toArray]); (try simp only [List.set_cons_succ]); (try simp only [List.set_cons_zero]))
      refine takeL (i := 11) rfl (by kernel_rfl) (by kernel_rfl) (by kernel_rfl) (fun _ _ _ _ h => h) hHeld ?_ (Or.inl ⟨by rfl, ?_⟩) ?_
      rotate_left
      · intro W hW
        (try dsimp only at hW)
        first | (go_simp; done) | (go_simp; with_reducible rfl)
      ((try simp only [Act.put]); (try simp only [List.setIfInBounds_toArray]); (try simp only [List.set_cons_succ]); (try simp only [List.set_cons_zero]))
      refine takeL (i := 13) rfl (by kernel_rfl) (by kernel_rfl) (by kernel_rfl) (fun _ _ _ _ h => h) hHeld ?_ (Or.inl ⟨by rfl, ?_⟩) ?_
      rotate_left
      · intro W hW
        (try dsimp only at hW)
        first | (go_simp; done) | (go_simp; with_reducible rfl)
      ((try simp only [Act.put]); (try simp only [List.setIfInBounds_toArray]); (try simp only [List.set_cons_succ]); (try simp only [List.set_cons_zero]))
      refine takeL (i := 14) rfl (by kernel_rfl) (by kernel_rfl) (by kernel_rfl) (fun _ _ _ _ h => h) hHeld ?_ (Or.inl ⟨by rfl, ?_⟩) ?_
      rotate_left
      · intro W hW
        (try dsimp only at hW)
        first | (go_simp; done) | (go_simp; with_reducible rfl)
      ((try simp only [Act.put]); (try simp only [List.setIfInBounds_toArray]); (try simp only [List.set_cons_succ]); (try simp only [List.set_cons_zero]))
      refine callL (i := 12) rfl (by kernel_rfl) (fun K hK => ?_)
      rw [if_pos (by rfl)]
      go_simp
      refine (mask_c (H.re (.step (.there (.there (.here _ _))) (.same _)))).mono ?_
      rintro e w' ⟨rfl, rfl⟩
      clear hHeld
      refine hK.out _ _ ?_ (fun hHeld => ?_)
      · exact ⟨H.cell (o := 0) (.there (.here _ _)) rfl, H.cell (o := 1) (.there (.here _ _)) rfl⟩
      clear hK K
      ((try simp only [Act.put]); (try simp only [List.setIfInBounds_toArray]); (try simp only [List.set_cons_succ]); (try simp only [List.set_cons_zero]))
      refine takeL (i := 15) rfl (by kernel_rfl) (by kernel_rfl) (by kernel_rfl) (fun _ _ _ _ h => h) hHeld ?_ (Or.inl ⟨by rfl, ?_⟩) ?_
      rotate_left
      · intro W hW
        (try dsimp only at hW)
        first | (go_simp; done) | (go_simp; with_reducible rfl)
      ((try simp only [Act.put]); (try simp only [List.setIfInBounds_toArray]); (try simp only [List.set_cons_succ]); (try simp only [List.set_cons_zero]))
      refine takeL (i := 16) rfl (by kernel_rfl) (by kernel_rfl) (by kernel_rfl) (fun _ _ _ _ h => h) hHeld ?_ (Or.inl ⟨by rfl, ?_⟩) ?_
      rotate_left
      · intro W hW
        (try dsimp only at hW)
        first | (go_simp; done) | (go_simp; with_reducible rfl)
      ((try simp only [Act.put]); (try simp only [List.setIfInBounds_toArray]); (try simp only [List.set_cons_succ]); (try simp only [List.set_cons_zero]))
      refine takeL (i := 17) rfl (by kernel_rfl) (by kernel_rfl) (by kernel_rfl) (fun _ _ _ _ h => h) hHeld ?_ (Or.inl ⟨by rfl, ?_⟩) ?_
      rotate_left
      · intro W hW
        (try dsimp only at hW)
        first | (go_simp; done) | (go_simp; with_reducible rfl)
      ((try simp only [Act.put]); (try simp only [List.setIfInBounds_toArray]); (try simp only [List.set_cons_succ]); (try simp only [List.set_cons_zero]))
      refine callL (i := 18) rfl (by kernel_rfl) (fun K hK => ?_)
      rw [if_pos (by rfl)]
      have z0 := H.cell (o := 0) (.here _ _) rfl
      have z1 := H.cell (o := 1) (.here _ _) rfl
      have fz := fun o => H.free (.here _ _) o
      go_simp
      have H9 := (H.setCell 0 (.int .u64 N')).setCell 1 (.int .u64 (U x'))
      generalize (w8.setCell ⟨b7, 0, none⟩ (.int .u64 N')).setCell ⟨b7, 1, none⟩ (.int .u64 (U x')) = w9 at *
      clear H z0 z1 fz hHeld
      have H := H9
      clear H9
      refine hK.out _ _ ?_ (fun hHeld => ?_)
      · exact ⟨H.cell (o := 0) (.there (.here _ _)) rfl, H.cell (o := 1) (.there (.here _ _)) rfl⟩
      clear hK K
      ((try simp only [Act.put]); (try simp only [List.setIfInBounds_toArray]); (try simp only [List.set_cons_succ]); (try simp only [List.set_cons_zero]))
      refine takeL (i := 19) rfl (by kernel_rfl) (by kernel_rfl) (by kernel_rfl) (fun _ _ _ _ h => h) hHeld ?_ (Or.inl ⟨by rfl, ?_⟩) ?_
      rotate_left
      · intro W hW
        (try dsimp only at hW)
        first | (go_simp; done) | (go_simp; with_reducible rfl)
      ((try simp only [Act.put]); (try simp only [List.setIfInBounds_toArray]); (try simp only [List.set_cons_succ]); (try simp only [List.set_cons_zero]))
      refine wpAnyH_done (by kernel_rfl) ?_ _
      have h8 := Lib.hid H
      clear H hHeld
      go_wp2_with fail
      have k0 := h8.out.cell (o := 0) (.here _ _) rfl
      have k1 := h8.out.cell (o := 1) (.here _ _) rfl
      refine bodyPost_ret (v := .tuple #[.pointer (some ⟨p, 0, none⟩), .agg #[.int .u64 N', .int .u64 (U x')], .bool true]) ?_ rfl ?_
      · simp [results, Tryd.results22, go_sem, k0, k1]
      · exact ⟨p, N', x', rfl, hgw.out, h8.out.re (.step (.there (.there (.here _ _))) (.drop (.drop (.drop (.same _)))))⟩
  · have e0 : (k == 0) = false := by simp; omega
    by_cases hk1 : k = 1
    · have e1 : (k == 1) = true := by simp; omega
      clear hk1
      go_wp2_with fail
      generalize ((w.alloc (.cells #[.int .u64 N, .int .u64 (U x)] 50)).alloc (.cells #[.int .i64 k, .int .u64 n, .int .u64 (U y)] 55)).alloc (.cells #[.int .u64 0, .int .u64 0] 50) = wa at *
      generalize w.heap.size + 1 + 1 = b7 at *
      generalize w.heap.size + 1 = b5 at *
      generalize w.heap.size = b4 at *
      have H := hH0.out
      clear hH0
      cases hq : mayV (n : Int) (U y) with
      | false =>
        have hrm := Lib.hid (fun V => refTold_no (N := N) (x := x) (M := n) (y := y) (by have := hn'.out; omega) hq V)
        replace H := H.re (.step (.there (.there (.there (.here _ _)))) (.same _))
        have c := Lib.hid (told_no H (U_nn y) (U_lt64 y) hq)
        have hH := Lib.hid H
        clear H
        refine c.out.mono ?_
        rintro e W1 ⟨rfl, H⟩
        clear c hH
        replace H := H.re (.step (.there (.here _ _)) (.step (.there (.here _ _)) (.step (.there (.here _ _)) (.step (.here _ _) (.same _)))))
        have c0 := H.cell (o := 0) (.there (.there (.here _ _))) rfl
        have c1 := H.cell (o := 1) (.there (.there (.here _ _))) rfl
        have d0 := H.cell (o := 0) (.there (.here _ _)) rfl
        have d1 := H.cell (o := 1) (.there (.here _ _)) rfl
        have d2 := H.cell (o := 2) (.there (.here _ _)) rfl
        have z0 := H.cell (o := 0) (.here _ _) rfl
        have z1 := H.cell (o := 1) (.here _ _) rfl
        have hH := Lib.hid H
        clear H hq
        go_wp2_with fail
        refine (hrm.out _).mono ?_
        rintro e W2 ⟨rfl, k2⟩
        clear hrm
        have h2 := (hH.out.quiet k2).alloc [.int .u64 N, .int .u64 (U x)] 50
        clear hH k2 c0 c1 d0 d1 d2 z0 z1
        have c0 := h2.cell (o := 0) (.there (.there (.there (.here _ _)))) rfl
        have c1 := h2.cell (o := 1) (.there (.there (.there (.here _ _)))) rfl
        have fb := fun o => h2.free (.there (.there (.there (.here _ _)))) o
        have hh2 := Lib.hid h2
        clear h2
        go_wp2_with fail
        have H := ((hh2.out.re (L' := .blk b4 [.int .u64 N, .int .u64 (U x)] 50 :: .blk b7 [.int .u64 0, .int .u64 0] 50 :: winB p true (N : Int) (U x) :: .blk b5 [.int .i64 k, .int .u64 n, .int .u64 (U y)] 55 :: L)
          (.step (.there (.there (.there (.here _ _)))) (.step (.there (.here _ _)) (.step (.there (.there (.here _ _))) (.step (.there (.here _ _)) (.drop (.same _))))))).setCell 0 (.int .u64 N)).setCell 1 (.int .u64 (U x))
        clear hh2 c0 c1 fb
        generalize ((W2.alloc (.cells #[.int .u64 N, .int .u64 (U x)] 50)).setCell ⟨b4, 0, none⟩ (.int .u64 N)).setCell ⟨b4, 1, none⟩ (.int .u64 (U x)) = w7 at *
        replace H := H.re (.step (.there (.here _ _)) (.same _))
        have hH := Lib.hid H
        clear H
        refine wp_region_held_drew (S := (fun W => W.cell? ⟨b4, 0, none⟩ = some (.int .u64 N) ∧ W.cell? ⟨b4, 1, none⟩ = some (.int .u64 (U x)))) (by kernel_rfl) ?_ (fun hHeld => ?_)
        · have H := hH.out.drew
          exact ⟨H.cell (o := 0) (.there (.here _ _)) rfl, H.cell (o := 1) (.there (.here _ _)) rfl⟩
        have H := hH.out.drew
        generalize World.drew w7 = w8 at *
        clear hH
        refine takeL (i := 0) rfl (by kernel_rfl) (by kernel_rfl) (by kernel_rfl) (fun _ _ _ _ h => h) hHeld ?_ (Or.inl ⟨by rfl, ?_⟩) ?_
        rotate_left
        · intro W hW
          (try dsimp only at hW)
          first | (go_simp; done) | (go_simp; with_reducible rfl)
        ((try simp only [Act.put]); (try simp only [List.setIfInBounds_toArray]); (try simp only [List.set_cons_succ]); (try simp only [List.set_cons_zero]))
        refine takeL (i := 1) rfl (by kernel_rfl) (by kernel_rfl) (by kernel_rfl) (fun _ _ _ _ h => h) hHeld ?_ (Or.inl ⟨by rfl, ?_⟩) ?_
        rotate_left
        · intro W hW
          (try dsimp only at hW)
          first | (go_simp; done) | (go_simp; with_reducible rfl)
        ((try simp only [Act.put]); (try simp only [List.setIfInBounds_toArray]); (try simp only [List.set_cons_succ]); (try simp only [List.set_cons_zero]))
        refine takeL (i := 2) rfl (by kernel_rfl) (by kernel_rfl) (by kernel_rfl) (fun _ _ _ _ h => h) hHeld ?_ (Or.inl ⟨by rfl, ?_⟩) ?_
        rotate_left
        · intro W hW
          (try dsimp only at hW)
          first | (go_simp; done) | (go_simp; with_reducible rfl)
        ((try simp only [Act.put]); (try simp only [List.setIfInBounds_toArray]); (try simp only [List.set_cons_succ]); (try simp only [List.set_cons_zero]))
        refine takeL (i := 3) rfl (by kernel_rfl) (by kernel_rfl) (by kernel_rfl) (fun _ _ _ _ h => h) hHeld ?_ (Or.inl ⟨by rfl, ?_⟩) ?_
        rotate_left
        · intro W hW
          (try dsimp only at hW)
          first | (go_simp; done) | (go_simp; with_reducible rfl)
        ((try simp only [Act.put]); (try simp only [List.setIfInBounds_toArray]); (try simp only [List.set_cons_succ]); (try simp only [List.set_cons_zero]))
        refine takeL (i := 4) rfl (by kernel_rfl) (by kernel_rfl) (by kernel_rfl) (fun _ _ _ _ h => h) hHeld ?_ (Or.inl ⟨by rfl, ?_⟩) ?_
        rotate_left
        · intro W hW
          (try dsimp only at hW)
          first | (go_simp; done) | (go_simp; with_reducible rfl)
        ((try simp only [Act.put]); (try simp only [List.setIfInBounds_toArray]); (try simp only [List.set_cons_succ]); (try simp only [List.set_cons_zero]))
        refine takeL (i := 6) rfl (by kernel_rfl) (by kernel_rfl) (by kernel_rfl) (fun _ _ _ _ h => h) hHeld ?_ (Or.inl ⟨by rfl, ?_⟩) ?_
        rotate_left
        · intro W hW
          (try dsimp only at hW)
          first | (go_simp; done) | (go_simp; with_reducible rfl)
        ((try simp only [Act.put]); (try simp only [List.setIfInBounds_toArray]); (try simp only [List.set_cons_succ]); (try simp only [List.set_cons_zero]))
        refine takeL (i := 7) rfl (by kernel_rfl) (by kernel_rfl) (by kernel_rfl) (fun _ _ _ _ h => h) hHeld ?_ (Or.inl ⟨by rfl, ?_⟩) ?_
        rotate_left
        · intro W hW
          (try dsimp only at hW)
          first | (go_simp; done) | (go_simp; with_reducible rfl)
        ((try simp only [Act.put]); (try simp only [List.setIfInBounds_toArray]); (try simp only [List.set_cons_succ]); (try simp only [List.set_cons_zero]))
        refine callL (i := 5) rfl (by kernel_rfl) (fun K hK => ?_)
        rw [if_pos (by rfl)]
        go_simp
        refine (next_c (H.re (.step (.there (.there (.here _ _))) (.same _)))).mono ?_
        rintro e w' ⟨rfl, rfl⟩
        clear hHeld
        refine hK.out _ _ ?_ (fun hHeld => ?_)
        · exact ⟨H.cell (o := 0) (.there (.here _ _)) rfl, H.cell (o := 1) (.there (.here _ _)) rfl⟩
        clear hK K
        ((try simp only [Act.put]); (try simp only [List.setIfInBounds_toArray]); (try simp only [List.set_cons_succ]); (try simp only [List.set_cons_zero]))
        refine takeL (i := 8) rfl (by kernel_rfl) (by kernel_rfl) (by kernel_rfl) (fun _ _ _ _ h => h) hHeld ?_ (Or.inl ⟨by rfl, ?_⟩) ?_
        rotate_left
        · intro W hW
          (try dsimp only at hW)
          first | (go_simp; done) | (go_simp; with_reducible rfl)
        ((try simp only [Act.put]); (try simp only [List.setIfInBounds_toArray]); (try simp only [List.set_cons_succ]); (try simp only [List.set_cons_zero]))
        refine takeL (i := 9) rfl (by kernel_rfl) (by kernel_rfl) (by kernel_rfl) (fun _ _ _ _ h => h) hHeld ?_ (Or.inl ⟨by rfl, ?_⟩) ?_
        rotate_left
        · intro W hW
          (try dsimp only at hW)
          first | (go_simp; done) | (go_simp; with_reducible rfl)
        ((try simp only [Act.put]); (try simp only [List.setIfInBounds_toArray]); (try simp only [List.set_cons_succ]); (try simp only [List.set_cons_zero]))
        refine takeL (i := 10) rfl (by kernel_rfl) (by kernel_rfl) (by kernel_rfl) (fun _ _ _ _ h => h) hHeld ?_ (Or.inl ⟨by rfl, ?_⟩) ?_
        rotate_left
        · intro W hW
          (try dsimp only at hW)
          first | (go_simp; done) | (go_simp; with_reducible rfl)
        ((try simp only [Act.put]); (try simp only [List.setIfInBounds_toArray]); (try simp only [List.set_cons_succ]); (try simp only [List.set_cons_zero]))
        refine takeL (i := 11) rfl (by kernel_rfl) (by kernel_rfl) (by kernel_rfl) (fun _ _ _ _ h => h) hHeld ?_ (Or.inl ⟨by rfl, ?_⟩) ?_
        rotate_left
        · intro W hW
          (try dsimp only at hW)
          first | (go_simp; done) | (go_simp; with_reducible rfl)
        ((try simp only [Act.put]); (try simp only [List.setIfInBounds_toArray]); (try simp only [List.set_cons_succ]); (try simp only [List.set_cons_zero]))
        refine takeL (i := 13) rfl (by kernel_rfl) (by kernel_rfl) (by kernel_rfl) (fun _ _ _ _ h => h) hHeld ?_ (Or.inl ⟨by rfl, ?_⟩) ?_
        rotate_left
        · intro W hW
          (try dsimp only at hW)
          first | (go_simp; done) | (go_simp; with_reducible rfl)
        ((try simp only [Act.put]); (try simp only [List.setIfInBounds_toArray]); (try simp only [List.set_cons_succ]); (try simp only [List.set_cons_zero]))
        refine takeL (i := 14) rfl (by kernel_rfl) (by kernel_rfl) (by kernel_rfl) (fun _ _ _ _ h => h) hHeld ?_ (Or.inl ⟨by rfl, ?_⟩) ?_
        rotate_left
        · intro W hW
          (try dsimp only at hW)
          first | (go_simp; done) | (go_simp; with_reducible rfl)
        ((try simp only [Act.put]); (try simp only [List.setIfInBounds_toArray]); (try simp only [List.set_cons_succ]); (try simp only [List.set_cons_zero]))
        refine callL (i := 12) rfl (by kernel_rfl) (fun K hK => ?_)
        rw [if_pos (by rfl)]
        go_simp
        refine (mask_c (H.re (.step (.there (.there (.here _ _))) (.same _)))).mono ?_
        rintro e w' ⟨rfl, rfl⟩
        clear hHeld
        refine hK.out _ _ ?_ (fun hHeld => ?_)
        · exact ⟨H.cell (o := 0) (.there (.here _ _)) rfl, H.cell (o := 1) (.there (.here _ _)) rfl⟩
        clear hK K
        ((try simp only [Act.put]); (try simp only [List.setIfInBounds_toArray]); (try simp only [List.set_cons_succ]); (try simp only [List.set_cons_zero]))
        refine takeL (i := 15) rfl (by kernel_rfl) (by kernel_rfl) (by kernel_rfl) (fun _ _ _ _ h => h) hHeld ?_ (Or.inl ⟨by rfl, ?_⟩) ?_
        rotate_left
        · intro W hW
          (try dsimp only at hW)
          first | (go_simp; done) | (go_simp; with_reducible rfl)
        ((try simp only [Act.put]); (try simp only [List.setIfInBounds_toArray]); (try simp only [List.set_cons_succ]); (try simp only [List.set_cons_zero]))
        refine takeL (i := 16) rfl (by kernel_rfl) (by kernel_rfl) (by kernel_rfl) (fun _ _ _ _ h => h) hHeld ?_ (Or.inl ⟨by rfl, ?_⟩) ?_
        rotate_left
        · intro W hW
          (try dsimp only at hW)
          first | (go_simp; done) | (go_simp; with_reducible rfl)
        ((try simp only [Act.put]); (try simp only [List.setIfInBounds_toArray]); (try simp only [List.set_cons_succ]); (try simp only [List.set_cons_zero]))
        refine takeL (i := 17) rfl (by kernel_rfl) (by kernel_rfl) (by kernel_rfl) (fun _ _ _ _ h => h) hHeld ?_ (Or.inl ⟨by rfl, ?_⟩) ?_
        rotate_left
        · intro W hW
          (try dsimp only at hW)
          first | (go_simp; done) | (go_simp; with_reducible rfl)
        ((try simp only [Act.put]); (try simp only [List.setIfInBounds_toArray]); (try simp only [List.set_cons_succ]); (try simp only [List.set_cons_zero]))
        refine callL (i := 18) rfl (by kernel_rfl) (fun K hK => ?_)
        rw [if_pos (by rfl)]
        have z0 := H.cell (o := 0) (.here _ _) rfl
        have z1 := H.cell (o := 1) (.here _ _) rfl
        have fz := fun o => H.free (.here _ _) o
        go_simp
        have H9 := (H.setCell 0 (.int .u64 N)).setCell 1 (.int .u64 (U x))
        generalize (w8.setCell ⟨b7, 0, none⟩ (.int .u64 N)).setCell ⟨b7, 1, none⟩ (.int .u64 (U x)) = w9 at *
        clear H z0 z1 fz hHeld
        have H := H9
        clear H9
        refine hK.out _ _ ?_ (fun hHeld => ?_)
        · exact ⟨H.cell (o := 0) (.there (.here _ _)) rfl, H.cell (o := 1) (.there (.here _ _)) rfl⟩
        clear hK K
        ((try simp only [Act.put]); (try simp only [List.setIfInBounds_toArray]); (try simp only [List.set_cons_succ]); (try simp only [List.set_cons_zero]))
        refine takeL (i := 19) rfl (by kernel_rfl) (by kernel_rfl) (by kernel_rfl) (fun _ _ _ _ h => h) hHeld ?_ (Or.inl ⟨by rfl, ?_⟩) ?_
        rotate_left
        · intro W hW
          (try dsimp only at hW)
          first | (go_simp; done) | (go_simp; with_reducible rfl)
        ((try simp only [Act.put]); (try simp only [List.setIfInBounds_toArray]); (try simp only [List.set_cons_succ]); (try simp only [List.set_cons_zero]))
        refine wpAnyH_done (by kernel_rfl) ?_ _
        have h8 := Lib.hid H
        clear H hHeld
        go_wp2_with fail
        have k0 := h8.out.cell (o := 0) (.here _ _) rfl
        have k1 := h8.out.cell (o := 1) (.here _ _) rfl
        refine bodyPost_ret (v := .tuple #[.pointer (some ⟨p, 0, none⟩), .agg #[.int .u64 N, .int .u64 (U x)], .bool true]) ?_ rfl ?_
        · simp [results, Tryd.results22, go_sem, k0, k1]
        · exact ⟨p, N, x, rfl, hg'.out, h8.out.re (.step (.there (.there (.here _ _))) (.drop (.drop (.drop (.same _)))))⟩
      | true =>
        have hgy := (may_good n y).1 hq
        have hgw := Lib.hid (union_spec hg'.out hgy).1
        have hmy := Lib.hid (fun V L (h : SL V (winB p true (N : Int) (U x) :: L)) (ho : .old w0 no ∈ L) => told_L h ho ht'.out hg'.out hgy hq)
        have hrm := Lib.hid (fun V => refTold_yes hg'.out hgy V)
        generalize unionM N x n y = z at *
        obtain ⟨N', x'⟩ := z
        dsimp only at hgw hmy hrm
        generalize wrap64 (manyV N' x' - manyV N x) = dd at *
        clear hgy hq
        replace H := H.re (.step (.there (.there (.there (.here _ _)))) (.same _))
        have c := Lib.hid (hmy.out _ _ H (by simp [ho'.out]))
        have hH := Lib.hid H
        clear H
        refine c.out.mono ?_
        rintro e W1 ⟨rfl, H⟩
        clear c hH
        clear hmy
        replace H := H.re (.step (.there (.here _ _)) (.step (.there (.here _ _)) (.step (.there (.here _ _)) (.step (.here _ _) (.same _)))))
        have c0 := H.cell (o := 0) (.there (.there (.here _ _))) rfl
        have c1 := H.cell (o := 1) (.there (.there (.here _ _))) rfl
        have d0 := H.cell (o := 0) (.there (.here _ _)) rfl
        have d1 := H.cell (o := 1) (.there (.here _ _)) rfl
        have d2 := H.cell (o := 2) (.there (.here _ _)) rfl
        have z0 := H.cell (o := 0) (.here _ _) rfl
        have z1 := H.cell (o := 1) (.here _ _) rfl
        have hH := Lib.hid H
        clear H
        go_wp2_with fail
        refine (hrm.out _).mono ?_
        rintro e W2 ⟨rfl, k2⟩
        clear hrm
        have h2 := (hH.out.quiet k2).alloc [.int .u64 N', .int .u64 (U x')] 50
        clear hH k2 c0 c1 d0 d1 d2 z0 z1
        have c0 := h2.cell (o := 0) (.there (.there (.there (.here _ _)))) rfl
        have c1 := h2.cell (o := 1) (.there (.there (.there (.here _ _)))) rfl
        have fb := fun o => h2.free (.there (.there (.there (.here _ _)))) o
        have hh2 := Lib.hid h2
        clear h2
        go_wp2_with fail
        have H := ((hh2.out.re (L' := .blk b4 [.int .u64 N, .int .u64 (U x)] 50 :: .blk b7 [.int .u64 0, .int .u64 0] 50 :: winB p true (N' : Int) (U x') :: .blk b5 [.int .i64 k, .int .u64 n, .int .u64 (U y)] 55 :: L)
          (.step (.there (.there (.there (.here _ _)))) (.step (.there (.here _ _)) (.step (.there (.there (.here _ _))) (.step (.there (.here _ _)) (.drop (.same _))))))).setCell 0 (.int .u64 N')).setCell 1 (.int .u64 (U x'))
        clear hh2 c0 c1 fb
        generalize ((W2.alloc (.cells #[.int .u64 N', .int .u64 (U x')] 50)).setCell ⟨b4, 0, none⟩ (.int .u64 N')).setCell ⟨b4, 1, none⟩ (.int .u64 (U x')) = w7 at *
        replace H := H.re (.step (.there (.here _ _)) (.same _))
        have hH := Lib.hid H
        clear H
        refine wp_region_held_drew (S := (fun W => W.cell? ⟨b4, 0, none⟩ = some (.int .u64 N') ∧ W.cell? ⟨b4, 1, none⟩ = some (.int .u64 (U x')))) (by kernel_rfl) ?_ (fun hHeld => ?_)
        · have H := hH.out.drew
          exact ⟨H.cell (o := 0) (.there (.here _ _)) rfl, H.cell (o := 1) (.there (.here _ _)) rfl⟩
        have H := hH.out.drew
        generalize World.drew w7 = w8 at *
        clear hH
        refine takeL (i := 0) rfl (by kernel_rfl) (by kernel_rfl) (by kernel_rfl) (fun _ _ _ _ h => h) hHeld ?_ (Or.inl ⟨by rfl, ?_⟩) ?_
        rotate_left
        · intro W hW
          (try dsimp only at hW)
          first | (go_simp; done) | (go_simp; with_reducible rfl)
        ((try simp only [Act.put]); (try simp only [List.setIfInBounds_toArray]); (try simp only [List.set_cons_succ]); (try simp only [List.set_cons_zero]))
        refine takeL (i := 1) rfl (by kernel_rfl) (by kernel_rfl) (by kernel_rfl) (fun _ _ _ _ h => h) hHeld ?_ (Or.inl ⟨by rfl, ?_⟩) ?_
        rotate_left
        · intro W hW
          (try dsimp only at hW)
          first | (go_simp; done) | (go_simp; with_reducible rfl)
        ((try simp only [Act.put]); (try simp only [List.setIfInBounds_toArray]); (try simp only [List.set_cons_succ]); (try simp only [List.set_cons_zero]))
        refine takeL (i := 2) rfl (by kernel_rfl) (by kernel_rfl) (by kernel_rfl) (fun _ _ _ _ h => h) hHeld ?_ (Or.inl ⟨by rfl, ?_⟩) ?_
        rotate_left
        · intro W hW
          (try dsimp only at hW)
          first | (go_simp; done) | (go_simp; with_reducible rfl)
        ((try simp only [Act.put]); (try simp only [List.setIfInBounds_toArray]); (try simp only [List.set_cons_succ]); (try simp only [List.set_cons_zero]))
        refine takeL (i := 3) rfl (by kernel_rfl) (by kernel_rfl) (by kernel_rfl) (fun _ _ _ _ h => h) hHeld ?_ (Or.inl ⟨by rfl, ?_⟩) ?_
        rotate_left
        · intro W hW
          (try dsimp only at hW)
          first | (go_simp; done) | (go_simp; with_reducible rfl)
        ((try simp only [Act.put]); (try simp only [List.setIfInBounds_toArray]); (try simp only [List.set_cons_succ]); (try simp only [List.set_cons_zero]))
        refine takeL (i := 4) rfl (by kernel_rfl) (by kernel_rfl) (by kernel_rfl) (fun _ _ _ _ h => h) hHeld ?_ (Or.inl ⟨by rfl, ?_⟩) ?_
        rotate_left
        · intro W hW
          (try dsimp only at hW)
          first | (go_simp; done) | (go_simp; with_reducible rfl)
        ((try simp only [Act.put]); (try simp only [List.setIfInBounds_toArray]); (try simp only [List.set_cons_succ]); (try simp only [List.set_cons_zero]))
        refine takeL (i := 6) rfl (by kernel_rfl) (by kernel_rfl) (by kernel_rfl) (fun _ _ _ _ h => h) hHeld ?_ (Or.inl ⟨by rfl, ?_⟩) ?_
        rotate_left
        · intro W hW
          (try dsimp only at hW)
          first | (go_simp; done) | (go_simp; with_reducible rfl)
        ((try simp only [Act.put]); (try simp only [List.setIfInBounds_toArray]); (try simp only [List.set_cons_succ]); (try simp only [List.set_cons_zero]))
        refine takeL (i := 7) rfl (by kernel_rfl) (by kernel_rfl) (by kernel_rfl) (fun _ _ _ _ h => h) hHeld ?_ (Or.inl ⟨by rfl, ?_⟩) ?_
        rotate_left
        · intro W hW
          (try dsimp only at hW)
          first | (go_simp; done) | (go_simp; with_reducible rfl)
        ((try simp only [Act.put]); (try simp only [List.setIfInBounds_toArray]); (try simp only [List.set_cons_succ]); (try simp only [List.set_cons_zero]))
        refine callL (i := 5) rfl (by kernel_rfl) (fun K hK => ?_)
        rw [if_pos (by rfl)]
        go_simp
        refine (next_c (H.re (.step (.there (.there (.here _ _))) (.same _)))).mono ?_
        rintro e w' ⟨rfl, rfl⟩
        clear hHeld
        refine hK.out _ _ ?_ (fun hHeld => ?_)
        · exact ⟨H.cell (o := 0) (.there (.here _ _)) rfl, H.cell (o := 1) (.there (.here _ _)) rfl⟩
        clear hK K
        ((try simp only [Act.put]); (try simp only [List.setIfInBounds_toArray]); (try simp only [List.set_cons_succ]); (try simp only [List.set_cons_zero]))
        refine takeL (i := 8) rfl (by kernel_rfl) (by kernel_rfl) (by kernel_rfl) (fun _ _ _ _ h => h) hHeld ?_ (Or.inl ⟨by rfl, ?_⟩) ?_
        rotate_left
        · intro W hW
          (try dsimp only at hW)
          first | (go_simp; done) | (go_simp; with_reducible rfl)
        ((try simp only [Act.put]); (try simp only [List.setIfInBounds_toArray]); (try simp only [List.set_cons_succ]); (try simp only [List.set_cons_zero]))
        refine takeL (i := 9) rfl (by kernel_rfl) (by kernel_rfl) (by kernel_rfl) (fun _ _ _ _ h => h) hHeld ?_ (Or.inl ⟨by rfl, ?_⟩) ?_
        rotate_left
        · intro W hW
          (try dsimp only at hW)
          first | (go_simp; done) | (go_simp; with_reducible rfl)
        ((try simp only [Act.put]); (try simp only [List.setIfInBounds_toArray]); (try simp only [List.set_cons_succ]); (try simp only [List.set_cons_zero]))
        refine takeL (i := 10) rfl (by kernel_rfl) (by kernel_rfl) (by kernel_rfl) (fun _ _ _ _ h => h) hHeld ?_ (Or.inl ⟨by rfl, ?_⟩) ?_
        rotate_left
        · intro W hW
          (try dsimp only at hW)
          first | (go_simp; done) | (go_simp; with_reducible rfl)
        ((try simp only [Act.put]); (try simp only [List.setIfInBounds_toArray]); (try simp only [List.set_cons_succ]); (try simp only [List.set_cons_zero]))
        refine takeL (i := 11) rfl (by kernel_rfl) (by kernel_rfl) (by kernel_rfl) (fun _ _ _ _ h => h) hHeld ?_ (Or.inl ⟨by rfl, ?_⟩) ?_
        rotate_left
        · intro W hW
          (try dsimp only at hW)
          first | (go_simp; done) | (go_simp; with_reducible rfl)
        ((try simp only [Act.put]); (try simp only [List.setIfInBounds_toArray]); (try simp only [List.set_cons_succ]); (try simp only [List.set_cons_zero]))
        refine takeL (i := 13) rfl (by kernel_rfl) (by kernel_rfl) (by kernel_rfl) (fun _ _ _ _ h => h) hHeld ?_ (Or.inl ⟨by rfl, ?_⟩) ?_
        rotate_left
        · intro W hW
          (try dsimp only at hW)
          first | (go_simp; done) | (go_simp; with_reducible rfl)
        ((try simp only [Act.put]); (try simp only [List.setIfInBounds_toArray]); (try simp only [List.set_cons_succ]); (try simp only [List.set_cons_zero]))
        refine takeL (i := 14) rfl (by kernel_rfl) (by kernel_rfl) (by kernel_rfl) (fun _ _ _ _ h => h) hHeld ?_ (Or.inl ⟨by rfl, ?_⟩) ?_
        rotate_left
        · intro W hW
          (try dsimp only at hW)
          first | (go_simp; done) | (go_simp; with_reducible rfl)
        ((try simp only [Act.put]); (try simp only [List.setIfInBounds_toArray]); (try simp only [List.set_cons_succ]); (try simp only [List.set_cons_zero]))
        refine callL (i := 12) rfl (by kernel_rfl) (fun K hK => ?_)
        rw [if_pos (by rfl)]
        go_simp
        refine (mask_c (H.re (.step (.there (.there (.here _ _))) (.same _)))).mono ?_
        rintro e w' ⟨rfl, rfl⟩
        clear hHeld
        refine hK.out _ _ ?_ (fun hHeld => ?_)
        · exact ⟨H.cell (o := 0) (.there (.here _ _)) rfl, H.cell (o := 1) (.there (.here _ _)) rfl⟩
        clear hK K
        ((try simp only [Act.put]); (try simp only [List.setIfInBounds_toArray]); (try simp only [List.set_cons_succ]); (try simp only [List.set_cons_zero]))
        refine takeL (i := 15) rfl (by kernel_rfl) (by kernel_rfl) (by kernel_rfl) (fun _ _ _ _ h => h) hHeld ?_ (Or.inl ⟨by rfl, ?_⟩) ?_
        rotate_left
        · intro W hW
          (try dsimp only at hW)
          first | (go_simp; done) | (go_simp; with_reducible rfl)
        ((try simp only [Act.put]); (try simp only [List.setIfInBounds_toArray]); (try simp only [List.set_cons_succ]); (try simp only [List.set_cons_zero]))
        refine takeL (i := 16) rfl (by kernel_rfl) (by kernel_rfl) (by kernel_rfl) (fun _ _ _ _ h => h) hHeld ?_ (Or.inl ⟨by rfl, ?_⟩) ?_
        rotate_left
        · intro W hW
          (try dsimp only at hW)
          first | (go_simp; done) | (go_simp; with_reducible rfl)
        ((try simp only [Act.put]); (try simp only [List.setIfInBounds_toArray]); (try simp only [List.set_cons_succ]); (try simp only [List.set_cons_zero]))
        refine takeL (i := 17) rfl (by kernel_rfl) (by kernel_rfl) (by kernel_rfl) (fun _ _ _ _ h => h) hHeld ?_ (Or.inl ⟨by rfl, ?_⟩) ?_
        rotate_left
        · intro W hW
          (try dsimp only at hW)
          first | (go_simp; done) | (go_simp; with_reducible rfl)
        ((try simp only [Act.put]); (try simp only [List.setIfInBounds_toArray]); (try simp only [List.set_cons_succ]); (try simp only [List.set_cons_zero]))
        refine callL (i := 18) rfl (by kernel_rfl) (fun K hK => ?_)
        rw [if_pos (by rfl)]
        have z0 := H.cell (o := 0) (.here _ _) rfl
        have z1 := H.cell (o := 1) (.here _ _) rfl
        have fz := fun o => H.free (.here _ _) o
        go_simp
        have H9 := (H.setCell 0 (.int .u64 N')).setCell 1 (.int .u64 (U x'))
        generalize (w8.setCell ⟨b7, 0, none⟩ (.int .u64 N')).setCell ⟨b7, 1, none⟩ (.int .u64 (U x')) = w9 at *
        clear H z0 z1 fz hHeld
        have H := H9
        clear H9
        refine hK.out _ _ ?_ (fun hHeld => ?_)
        · exact ⟨H.cell (o := 0) (.there (.here _ _)) rfl, H.cell (o := 1) (.there (.here _ _)) rfl⟩
        clear hK K
        ((try simp only [Act.put]); (try simp only [List.setIfInBounds_toArray]); (try simp only [List.set_cons_succ]); (try simp only [List.set_cons_zero]))
        refine takeL (i := 19) rfl (by kernel_rfl) (by kernel_rfl) (by kernel_rfl) (fun _ _ _ _ h => h) hHeld ?_ (Or.inl ⟨by rfl, ?_⟩) ?_
        rotate_left
        · intro W hW
          (try dsimp only at hW)
          first | (go_simp; done) | (go_simp; with_reducible rfl)
        ((try simp only [Act.put]); (try simp only [List.setIfInBounds_toArray]); (try simp only [List.set_cons_succ]); (try simp only [List.set_cons_zero]))
        refine wpAnyH_done (by kernel_rfl) ?_ _
        have h8 := Lib.hid H
        clear H hHeld
        go_wp2_with fail
        have k0 := h8.out.cell (o := 0) (.here _ _) rfl
        have k1 := h8.out.cell (o := 1) (.here _ _) rfl
        refine bodyPost_ret (v := .tuple #[.pointer (some ⟨p, 0, none⟩), .agg #[.int .u64 N', .int .u64 (U x')], .bool true]) ?_ rfl ?_
        · simp [results, Tryd.results22, go_sem, k0, k1]
        · exact ⟨p, N', x', rfl, hgw.out, h8.out.re (.step (.there (.there (.here _ _))) (.drop (.drop (.drop (.same _)))))⟩
    · have e1 : (k == 1) = false := by simp; omega
      by_cases hk2 : k = 2
      · have e2 : (k == 2) = true := by simp; omega
        clear hk2
        go_wp2_with fail
        generalize ((w.alloc (.cells #[.int .u64 N, .int .u64 (U x)] 50)).alloc (.cells #[.int .i64 k, .int .u64 n, .int .u64 (U y)] 55)).alloc (.cells #[.int .u64 0, .int .u64 0] 50) = wa at *
        generalize w.heap.size + 1 + 1 = b7 at *
        generalize w.heap.size + 1 = b5 at *
        generalize w.heap.size = b4 at *
        have H := hH0.out
        clear hH0
        replace H := H.re (.step (.there (.there (.there (.here _ _)))) (.step (.here _ _) (.step (.here _ _) (.step (.here _ _) (.same _)))))
        have hhas := Lib.hid (fun V L (h : SL V (winB p true (N : Int) (U x) :: L)) (ho : .old w0 no ∈ L) => has_L h ho ht'.out hN5.out n)
        have hroo := Lib.hid (fun V L (h : SL V (winB p true (N : Int) (U x) :: L)) => room_c h (n : Int) (by omega) hN5.out)
        have hrh := Lib.hid (fun V => refHas_c N n x hn'.out V)
        have hrr := Lib.hid (fun V => refRoom_c (N : Int) (n : Int) (U x) (by omega) hN5.out V)
        generalize metM N x n = bm at *
        generalize roomM (N : Int) (n : Int) = rr at *
        have hH := Lib.hid H
        clear H
        refine wp_region_held_drew (S := (fun W => W.cell? ⟨b4, 0, none⟩ = some (.int .u64 N) ∧ W.cell? ⟨b4, 1, none⟩ = some (.int .u64 (U x)) ∧ W.cell? ⟨b5, 1, none⟩ = some (.int .u64 n))) (by kernel_rfl) ?_ (fun hHeld => ?_)
        · have H := hH.out.drew
          exact ⟨H.cell (o := 0) (.there (.there (.there (.here _ _)))) rfl, H.cell (o := 1) (.there (.there (.there (.here _ _)))) rfl, H.cell (o := 1) (.there (.there (.here _ _))) rfl⟩
        have H := hH.out.drew
        generalize World.drew wa = w8 at *
        clear hH
        refine takeL (i := 0) rfl (by kernel_rfl) (by kernel_rfl) (by kernel_rfl) (fun _ _ _ _ h => h) hHeld ?_ (Or.inl ⟨by rfl, ?_⟩) ?_
        rotate_left
        · intro W hW
          (try dsimp only at hW)
          first | (go_simp; done) | (go_simp; with_reducible rfl)
        ((try simp only [Act.put]); (try simp only [List.setIfInBounds_toArray]); (try simp only [List.set_cons_succ]); (try simp only [List.set_cons_zero]))
        refine takeL (i := 1) rfl (by kernel_rfl) (by kernel_rfl) (by kernel_rfl) (fun _ _ _ _ h => h) hHeld ?_ (Or.inl ⟨by rfl, ?_⟩) ?_
        rotate_left
        · intro W hW
          (try dsimp only at hW)
          first | (go_simp; done) | (go_simp; with_reducible rfl)
        ((try simp only [Act.put]); (try simp only [List.setIfInBounds_toArray]); (try simp only [List.set_cons_succ]); (try simp only [List.set_cons_zero]))
        refine takeL (i := 2) rfl (by kernel_rfl) (by kernel_rfl) (by kernel_rfl) (fun _ _ _ _ h => h) hHeld ?_ (Or.inl ⟨by rfl, ?_⟩) ?_
        rotate_left
        · intro W hW
          (try dsimp only at hW)
          first | (go_simp; done) | (go_simp; with_reducible rfl)
        ((try simp only [Act.put]); (try simp only [List.setIfInBounds_toArray]); (try simp only [List.set_cons_succ]); (try simp only [List.set_cons_zero]))
        refine takeL (i := 4) rfl (by kernel_rfl) (by kernel_rfl) (by kernel_rfl) (fun _ _ _ _ h => h) hHeld ?_ (Or.inl ⟨by rfl, ?_⟩) ?_
        rotate_left
        · intro W hW
          (try dsimp only at hW)
          first | (go_simp; done) | (go_simp; with_reducible rfl)
        ((try simp only [Act.put]); (try simp only [List.setIfInBounds_toArray]); (try simp only [List.set_cons_succ]); (try simp only [List.set_cons_zero]))
        refine takeL (i := 5) rfl (by kernel_rfl) (by kernel_rfl) (by kernel_rfl) (fun _ _ _ _ h => h) hHeld ?_ (Or.inl ⟨by rfl, ?_⟩) ?_
        rotate_left
        · intro W hW
          (try dsimp only at hW)
          first | (go_simp; done) | (go_simp; with_reducible rfl)
        ((try simp only [Act.put]); (try simp only [List.setIfInBounds_toArray]); (try simp only [List.set_cons_succ]); (try simp only [List.set_cons_zero]))
        refine takeL (i := 6) rfl (by kernel_rfl) (by kernel_rfl) (by kernel_rfl) (fun _ _ _ _ h => h) hHeld ?_ (Or.inl ⟨by rfl, ?_⟩) ?_
        rotate_left
        · intro W hW
          (try dsimp only at hW)
          first | (go_simp; done) | (go_simp; with_reducible rfl)
        ((try simp only [Act.put]); (try simp only [List.setIfInBounds_toArray]); (try simp only [List.set_cons_succ]); (try simp only [List.set_cons_zero]))
        refine callL (i := 3) rfl (by kernel_rfl) (fun K hK => ?_)
        rw [if_pos (by rfl)]
        go_simp
        refine (hhas.out _ _ H (by simp [ho'.out])).mono ?_
        rintro e W3 ⟨rfl, H3⟩
        clear H hHeld
        have H := H3
        clear H3
        refine hK.out _ _ ?_ (fun hHeld => ?_)
        · exact ⟨H.cell (o := 0) (.there (.there (.there (.here _ _)))) rfl, H.cell (o := 1) (.there (.there (.there (.here _ _)))) rfl, H.cell (o := 1) (.there (.there (.here _ _))) rfl⟩
        clear hK K
        ((try simp only [Act.put]); (try simp only [List.setIfInBounds_toArray]); (try simp only [List.set_cons_succ]); (try simp only [List.set_cons_zero]))
        refine callL (i := 7) rfl (by kernel_rfl) (fun K hK => ?_)
        rw [if_pos (by rfl)]
        go_simp
        refine (hrh.out _).mono ?_
        rintro e W4 ⟨rfl, k4⟩
        have H4 := H.quiet k4
        clear H hHeld k4
        have H := H4
        clear H4
        refine hK.out _ _ ?_ (fun hHeld => ?_)
        · exact ⟨H.cell (o := 0) (.there (.there (.there (.here _ _)))) rfl, H.cell (o := 1) (.there (.there (.there (.here _ _)))) rfl, H.cell (o := 1) (.there (.there (.here _ _))) rfl⟩
        clear hK K
        ((try simp only [Act.put]); (try simp only [List.setIfInBounds_toArray]); (try simp only [List.set_cons_succ]); (try simp only [List.set_cons_zero]))
        refine takeL (i := 8) rfl (by kernel_rfl) (by kernel_rfl) (by kernel_rfl) (fun _ _ _ _ h => h) hHeld ?_ (Or.inl ⟨by rfl, ?_⟩) ?_
        rotate_left
        · intro W hW
          (try dsimp only at hW)
          first | (go_simp; done) | (go_simp; with_reducible rfl)
        ((try simp only [Act.put]); (try simp only [List.setIfInBounds_toArray]); (try simp only [List.set_cons_succ]); (try simp only [List.set_cons_zero]))
        refine takeL (i := 9) rfl (by kernel_rfl) (by kernel_rfl) (by kernel_rfl) (fun _ _ _ _ h => h) hHeld ?_ (Or.inl ⟨by rfl, ?_⟩) ?_
        rotate_left
        · intro W hW
          (try dsimp only at hW)
          first | (go_simp; done) | (go_simp; with_reducible rfl)
        ((try simp only [Act.put]); (try simp only [List.setIfInBounds_toArray]); (try simp only [List.set_cons_succ]); (try simp only [List.set_cons_zero]))
        refine takeL (i := 10) rfl (by kernel_rfl) (by kernel_rfl) (by kernel_rfl) (fun _ _ _ _ h => h) hHeld ?_ (Or.inl ⟨by rfl, ?_⟩) ?_
        rotate_left
        · intro W hW
          (try dsimp only at hW)
          first | (go_simp; done) | (go_simp; with_reducible rfl)
        ((try simp only [Act.put]); (try simp only [List.setIfInBounds_toArray]); (try simp only [List.set_cons_succ]); (try simp only [List.set_cons_zero]))
        refine takeL (i := 11) rfl (by kernel_rfl) (by kernel_rfl) (by kernel_rfl) (fun _ _ _ _ h => h) hHeld ?_ (Or.inl ⟨by rfl, ?_⟩) ?_
        rotate_left
        · intro W hW
          (try dsimp only at hW)
          first | (go_simp; done) | (go_simp; with_reducible rfl)
        ((try simp only [Act.put]); (try simp only [List.setIfInBounds_toArray]); (try simp only [List.set_cons_succ]); (try simp only [List.set_cons_zero]))
        refine takeL (i := 12) rfl (by kernel_rfl) (by kernel_rfl) (by kernel_rfl) (fun _ _ _ _ h => h) hHeld ?_ (Or.inl ⟨by rfl, ?_⟩) ?_
        rotate_left
        · intro W hW
          (try dsimp only at hW)
          first | (go_simp; done) | (go_simp; with_reducible rfl)
        ((try simp only [Act.put]); (try simp only [List.setIfInBounds_toArray]); (try simp only [List.set_cons_succ]); (try simp only [List.set_cons_zero]))
        refine takeL (i := 14) rfl (by kernel_rfl) (by kernel_rfl) (by kernel_rfl) (fun _ _ _ _ h => h) hHeld ?_ (Or.inl ⟨by rfl, ?_⟩) ?_
        rotate_left
        · intro W hW
          (try dsimp only at hW)
          first | (go_simp; done) | (go_simp; with_reducible rfl)
        ((try simp only [Act.put]); (try simp only [List.setIfInBounds_toArray]); (try simp only [List.set_cons_succ]); (try simp only [List.set_cons_zero]))
        refine takeL (i := 15) rfl (by kernel_rfl) (by kernel_rfl) (by kernel_rfl) (fun _ _ _ _ h => h) hHeld ?_ (Or.inl ⟨by rfl, ?_⟩) ?_
        rotate_left
        · intro W hW
          (try dsimp only at hW)
          first | (go_simp; done) | (go_simp; with_reducible rfl)
        ((try simp only [Act.put]); (try simp only [List.setIfInBounds_toArray]); (try simp only [List.set_cons_succ]); (try simp only [List.set_cons_zero]))
        refine takeL (i := 16) rfl (by kernel_rfl) (by kernel_rfl) (by kernel_rfl) (fun _ _ _ _ h => h) hHeld ?_ (Or.inl ⟨by rfl, ?_⟩) ?_
        rotate_left
        · intro W hW
          (try dsimp only at hW)
          first | (go_simp; done) | (go_simp; with_reducible rfl)
        ((try simp only [Act.put]); (try simp only [List.setIfInBounds_toArray]); (try simp only [List.set_cons_succ]); (try simp only [List.set_cons_zero]))
        refine callL (i := 13) rfl (by kernel_rfl) (fun K hK => ?_)
        rw [if_pos (by rfl)]
        go_simp
        refine (hroo.out _ _ H).mono ?_
        rintro e w' ⟨rfl, rfl⟩
        clear hHeld
        refine hK.out _ _ ?_ (fun hHeld => ?_)
        · exact ⟨H.cell (o := 0) (.there (.there (.there (.here _ _)))) rfl, H.cell (o := 1) (.there (.there (.there (.here _ _)))) rfl, H.cell (o := 1) (.there (.there (.here _ _))) rfl⟩
        clear hK K
        ((try simp only [Act.put]); (try simp only [List.setIfInBounds_toArray]); (try simp only [List.set_cons_succ]); (try simp only [List.set_cons_zero]))
        refine callL (i := 17) rfl (by kernel_rfl) (fun K hK => ?_)
        rw [if_pos (by rfl)]
        go_simp
        refine (hrr.out _).mono ?_
        rintro e W5 ⟨rfl, k4⟩
        have H4 := H.quiet k4
        clear H hHeld k4
        have H := H4
        clear H4
        refine hK.out _ _ ?_ (fun hHeld => ?_)
        · exact ⟨H.cell (o := 0) (.there (.there (.there (.here _ _)))) rfl, H.cell (o := 1) (.there (.there (.there (.here _ _)))) rfl, H.cell (o := 1) (.there (.there (.here _ _))) rfl⟩
        clear hK K
        ((try simp only [Act.put]); (try simp only [List.setIfInBounds_toArray]); (try simp only [List.set_cons_succ]); (try simp only [List.set_cons_zero]))
        refine takeL (i := 18) rfl (by kernel_rfl) (by kernel_rfl) (by kernel_rfl) (fun _ _ _ _ h => h) hHeld ?_ (Or.inl ⟨by rfl, ?_⟩) ?_
        rotate_left
        · intro W hW
          (try dsimp only at hW)
          first | (go_simp; done) | (go_simp; with_reducible rfl)
        ((try simp only [Act.put]); (try simp only [List.setIfInBounds_toArray]); (try simp only [List.set_cons_succ]); (try simp only [List.set_cons_zero]))
        refine takeL (i := 19) rfl (by kernel_rfl) (by kernel_rfl) (by kernel_rfl) (fun _ _ _ _ h => h) hHeld ?_ (Or.inl ⟨by rfl, ?_⟩) ?_
        rotate_left
        · intro W hW
          (try dsimp only at hW)
          first | (go_simp; done) | (go_simp; with_reducible rfl)
        ((try simp only [Act.put]); (try simp only [List.setIfInBounds_toArray]); (try simp only [List.set_cons_succ]); (try simp only [List.set_cons_zero]))
        refine takeL (i := 20) rfl (by kernel_rfl) (by kernel_rfl) (by kernel_rfl) (fun _ _ _ _ h => h) hHeld ?_ (Or.inl ⟨by rfl, ?_⟩) ?_
        rotate_left
        · intro W hW
          (try dsimp only at hW)
          first | (go_simp; done) | (go_simp; with_reducible rfl)
        ((try simp only [Act.put]); (try simp only [List.setIfInBounds_toArray]); (try simp only [List.set_cons_succ]); (try simp only [List.set_cons_zero]))
        refine wpAnyH_done (by kernel_rfl) ?_ _
        clear hHeld
        have hH := Lib.hid H
        clear H hhas hroo hrh hrr
        go_wp2_with fail
        have H := hH.out
        clear hH
        replace H := H.re (.step (.there (.here _ _)) (.step (.there (.there (.here _ _))) (.step (.here _ _) (.step (.here _ _) (.same _)))))
        have hH := Lib.hid H
        clear H
        refine wp_region_held_drew (S := (fun W => W.cell? ⟨b4, 0, none⟩ = some (.int .u64 N) ∧ W.cell? ⟨b4, 1, none⟩ = some (.int .u64 (U x)))) (by kernel_rfl) ?_ (fun hHeld => ?_)
        · have H := hH.out.drew
          exact ⟨H.cell (o := 0) (.there (.here _ _)) rfl, H.cell (o := 1) (.there (.here _ _)) rfl⟩
        have H := hH.out.drew
        generalize World.drew W5 = w8 at *
        clear hH
        refine takeL (i := 0) rfl (by kernel_rfl) (by kernel_rfl) (by kernel_rfl) (fun _ _ _ _ h => h) hHeld ?_ (Or.inl ⟨by rfl, ?_⟩) ?_
        rotate_left
        · intro W hW
          (try dsimp only at hW)
          first | (go_simp; done) | (go_simp; with_reducible rfl)
        ((try simp only [Act.put]); (try simp only [List.setIfInBounds_toArray]); (try simp only [List.set_cons_succ]); (try simp only [List.set_cons_zero]))
        refine takeL (i := 1) rfl (by kernel_rfl) (by kernel_rfl) (by kernel_rfl) (fun _ _ _ _ h => h) hHeld ?_ (Or.inl ⟨by rfl, ?_⟩) ?_
        rotate_left
        · intro W hW
          (try dsimp only at hW)
          first | (go_simp; done) | (go_simp; with_reducible rfl)
        ((try simp only [Act.put]); (try simp only [List.setIfInBounds_toArray]); (try simp only [List.set_cons_succ]); (try simp only [List.set_cons_zero]))
        refine takeL (i := 2) rfl (by kernel_rfl) (by kernel_rfl) (by kernel_rfl) (fun _ _ _ _ h => h) hHeld ?_ (Or.inl ⟨by rfl, ?_⟩) ?_
        rotate_left
        · intro W hW
          (try dsimp only at hW)
          first | (go_simp; done) | (go_simp; with_reducible rfl)
        ((try simp only [Act.put]); (try simp only [List.setIfInBounds_toArray]); (try simp only [List.set_cons_succ]); (try simp only [List.set_cons_zero]))
        refine takeL (i := 3) rfl (by kernel_rfl) (by kernel_rfl) (by kernel_rfl) (fun _ _ _ _ h => h) hHeld ?_ (Or.inl ⟨by rfl, ?_⟩) ?_
        rotate_left
        · intro W hW
          (try dsimp only at hW)
          first | (go_simp; done) | (go_simp; with_reducible rfl)
        ((try simp only [Act.put]); (try simp only [List.setIfInBounds_toArray]); (try simp only [List.set_cons_succ]); (try simp only [List.set_cons_zero]))
        refine takeL (i := 4) rfl (by kernel_rfl) (by kernel_rfl) (by kernel_rfl) (fun _ _ _ _ h => h) hHeld ?_ (Or.inl ⟨by rfl, ?_⟩) ?_
        rotate_left
        · intro W hW
          (try dsimp only at hW)
          first | (go_simp; done) | (go_simp; with_reducible rfl)
        ((try simp only [Act.put]); (try simp only [List.setIfInBounds_toArray]); (try simp only [List.set_cons_succ]); (try simp only [List.set_cons_zero]))
        refine takeL (i := 6) rfl (by kernel_rfl) (by kernel_rfl) (by kernel_rfl) (fun _ _ _ _ h => h) hHeld ?_ (Or.inl ⟨by rfl, ?_⟩) ?_
        rotate_left
        · intro W hW
          (try dsimp only at hW)
          first | (go_simp; done) | (go_simp; with_reducible rfl)
        ((try simp only [Act.put]); (try simp only [List.setIfInBounds_toArray]); (try simp only [List.set_cons_succ]); (try simp only [List.set_cons_zero]))
        refine takeL (i := 7) rfl (by kernel_rfl) (by kernel_rfl) (by kernel_rfl) (fun _ _ _ _ h => h) hHeld ?_ (Or.inl ⟨by rfl, ?_⟩) ?_
        rotate_left
        · intro W hW
          (try dsimp only at hW)
          first | (go_simp; done) | (go_simp; with_reducible rfl)
        ((try simp only [Act.put]); (try simp only [List.setIfInBounds_toArray]); (try simp only [List.set_cons_succ]); (try simp only [List.set_cons_zero]))
        refine callL (i := 5) rfl (by kernel_rfl) (fun K hK => ?_)
        rw [if_pos (by rfl)]
        go_simp
        refine (next_c (H.re (.step (.there (.there (.here _ _))) (.same _)))).mono ?_
        rintro e w' ⟨rfl, rfl⟩
        clear hHeld
        refine hK.out _ _ ?_ (fun hHeld => ?_)
        · exact ⟨H.cell (o := 0) (.there (.here _ _)) rfl, H.cell (o := 1) (.there (.here _ _)) rfl⟩
        clear hK K
        ((try simp only [Act.put]); (try simp only [List.setIfInBounds_toArray]); (try simp only [List.set_cons_succ]); (try simp only [List.set_cons_zero]))
        refine takeL (i := 8) rfl (by kernel_rfl) (by kernel_rfl) (by kernel_rfl) (fun _ _ _ _ h => h) hHeld ?_ (Or.inl ⟨by rfl, ?_⟩) ?_
        rotate_left
        · intro W hW
          (try dsimp only at hW)
          first | (go_simp; done) | (go_simp; with_reducible rfl)
        ((try simp only [Act.put]); (try simp only [List.setIfInBounds_toArray]); (try simp only [List.set_cons_succ]); (try simp only [List.set_cons_zero]))
        refine takeL (i := 9) rfl (by kernel_rfl) (by kernel_rfl) (by kernel_rfl) (fun _ _ _ _ h => h) hHeld ?_ (Or.inl ⟨by rfl, ?_⟩) ?_
        rotate_left
        · intro W hW
          (try dsimp only at hW)
          first | (go_simp; done) | (go_simp; with_reducible rfl)
        ((try simp only [Act.put]); (try simp only [List.setIfInBounds_toArray]); (try simp only [List.set_cons_succ]); (try simp only [List.set_cons_zero]))
        refine takeL (i := 10) rfl (by kernel_rfl) (by kernel_rfl) (by kernel_rfl) (fun _ _ _ _ h => h) hHeld ?_ (Or.inl ⟨by rfl, ?_⟩) ?_
        rotate_left
        · intro W hW
          (try dsimp only at hW)
          first | (go_simp; done) | (go_simp; with_reducible rfl)
        ((try simp only [Act.put]); (try simp only [List.setIfInBounds_toArray]); (try simp only [List.set_cons_succ]); (try simp only [List.set_cons_zero]))
        refine takeL (i := 11) rfl (by kernel_rfl) (by kernel_rfl) (by kernel_rfl) (fun _ _ _ _ h => h) hHeld ?_ (Or.inl ⟨by rfl, ?_⟩) ?_
        rotate_left
        · intro W hW
          (try dsimp only at hW)
          first | (go_simp; done) | (go_simp; with_reducible rfl)
        ((try simp only [Act.put]); (try simp only [List.setIfInBounds_toArray]); (try simp only [List.set_cons_succ]); (try simp only [List.set_cons_zero]))
        refine takeL (i := 13) rfl (by kernel_rfl) (by kernel_rfl) (by kernel_rfl) (fun _ _ _ _ h => h) hHeld ?_ (Or.inl ⟨by rfl, ?_⟩) ?_
        rotate_left
        · intro W hW
          (try dsimp only at hW)
          first | (go_simp; done) | (go_simp; with_reducible rfl)
        ((try simp only [Act.put]); (try simp only [List.setIfInBounds_toArray]); (try simp only [List.set_cons_succ]); (try simp only [List.set_cons_zero]))
        refine takeL (i := 14) rfl (by kernel_rfl) (by kernel_rfl) (by kernel_rfl) (fun _ _ _ _ h => h) hHeld ?_ (Or.inl ⟨by rfl, ?_⟩) ?_
        rotate_left
        · intro W hW
          (try dsimp only at hW)
          first | (go_simp; done) | (go_simp; with_reducible rfl)
        ((try simp only [Act.put]); (try simp only [List.setIfInBounds_toArray]); (try simp only [List.set_cons_succ]); (try simp only [List.set_cons_zero]))
        refine callL (i := 12) rfl (by kernel_rfl) (fun K hK => ?_)
        rw [if_pos (by rfl)]
        go_simp
        refine (mask_c (H.re (.step (.there (.there (.here _ _))) (.same _)))).mono ?_
        rintro e w' ⟨rfl, rfl⟩
        clear hHeld
        refine hK.out _ _ ?_ (fun hHeld => ?_)
        · exact ⟨H.cell (o := 0) (.there (.here _ _)) rfl, H.cell (o := 1) (.there (.here _ _)) rfl⟩
        clear hK K
        ((try simp only [Act.put]); (try simp only [List.setIfInBounds_toArray]); (try simp only [List.set_cons_succ]); (try simp only [List.set_cons_zero]))
        refine takeL (i := 15) rfl (by kernel_rfl) (by kernel_rfl) (by kernel_rfl) (fun _ _ _ _ h => h) hHeld ?_ (Or.inl ⟨by rfl, ?_⟩) ?_
        rotate_left
        · intro W hW
          (try dsimp only at hW)
          first | (go_simp; done) | (go_simp; with_reducible rfl)
        ((try simp only [Act.put]); (try simp only [List.setIfInBounds_toArray]); (try simp only [List.set_cons_succ]); (try simp only [List.set_cons_zero]))
        refine takeL (i := 16) rfl (by kernel_rfl) (by kernel_rfl) (by kernel_rfl) (fun _ _ _ _ h => h) hHeld ?_ (Or.inl ⟨by rfl, ?_⟩) ?_
        rotate_left
        · intro W hW
          (try dsimp only at hW)
          first | (go_simp; done) | (go_simp; with_reducible rfl)
        ((try simp only [Act.put]); (try simp only [List.setIfInBounds_toArray]); (try simp only [List.set_cons_succ]); (try simp only [List.set_cons_zero]))
        refine takeL (i := 17) rfl (by kernel_rfl) (by kernel_rfl) (by kernel_rfl) (fun _ _ _ _ h => h) hHeld ?_ (Or.inl ⟨by rfl, ?_⟩) ?_
        rotate_left
        · intro W hW
          (try dsimp only at hW)
          first | (go_simp; done) | (go_simp; with_reducible rfl)
        ((try simp only [Act.put]); (try simp only [List.setIfInBounds_toArray]); (try simp only [List.set_cons_succ]); (try simp only [List.set_cons_zero]))
        refine callL (i := 18) rfl (by kernel_rfl) (fun K hK => ?_)
        rw [if_pos (by rfl)]
        have z0 := H.cell (o := 0) (.here _ _) rfl
        have z1 := H.cell (o := 1) (.here _ _) rfl
        have fz := fun o => H.free (.here _ _) o
        go_simp
        have H9 := (H.setCell 0 (.int .u64 N)).setCell 1 (.int .u64 (U x))
        generalize (w8.setCell ⟨b7, 0, none⟩ (.int .u64 N)).setCell ⟨b7, 1, none⟩ (.int .u64 (U x)) = w9 at *
        clear H z0 z1 fz hHeld
        have H := H9
        clear H9
        refine hK.out _ _ ?_ (fun hHeld => ?_)
        · exact ⟨H.cell (o := 0) (.there (.here _ _)) rfl, H.cell (o := 1) (.there (.here _ _)) rfl⟩
        clear hK K
        ((try simp only [Act.put]); (try simp only [List.setIfInBounds_toArray]); (try simp only [List.set_cons_succ]); (try simp only [List.set_cons_zero]))
        refine takeL (i := 19) rfl (by kernel_rfl) (by kernel_rfl) (by kernel_rfl) (fun _ _ _ _ h => h) hHeld ?_ (Or.inl ⟨by rfl, ?_⟩) ?_
        rotate_left
        · intro W hW
          (try dsimp only at hW)
          first | (go_simp; done) | (go_simp; with_reducible rfl)
        ((try simp only [Act.put]); (try simp only [List.setIfInBounds_toArray]); (try simp only [List.set_cons_succ]); (try simp only [List.set_cons_zero]))
        refine wpAnyH_done (by kernel_rfl) ?_ _
        have h8 := Lib.hid H
        clear H hHeld
        go_wp2_with fail
        have k0 := h8.out.cell (o := 0) (.here _ _) rfl
        have k1 := h8.out.cell (o := 1) (.here _ _) rfl
        refine bodyPost_ret (v := .tuple #[.pointer (some ⟨p, 0, none⟩), .agg #[.int .u64 N, .int .u64 (U x)], .bool true]) ?_ rfl ?_
        · simp [results, Tryd.results22, go_sem, k0, k1]
        · exact ⟨p, N, x, rfl, hg'.out, h8.out.re (.step (.there (.there (.here _ _))) (.drop (.drop (.drop (.same _)))))⟩
      · have e2 : (k == 2) = false := by simp; omega
        by_cases hk3 : k = 3
        · have e3 : (k == 3) = true := by simp; omega
          clear hk3
          go_wp2_with fail
          generalize ((w.alloc (.cells #[.int .u64 N, .int .u64 (U x)] 50)).alloc (.cells #[.int .i64 k, .int .u64 n, .int .u64 (U y)] 55)).alloc (.cells #[.int .u64 0, .int .u64 0] 50) = wa at *
          generalize w.heap.size + 1 + 1 = b7 at *
          generalize w.heap.size + 1 = b5 at *
          generalize w.heap.size = b4 at *
          have H := hH0.out
          clear hH0
          have hho := Lib.hid (fun V L (h : SL V (winB p true (N : Int) (U x) :: L)) (ho : .old w0 no ∈ L) => holes_L h ho ht'.out hN5.out)
          have hrh := Lib.hid (fun V L (h : SL V L) => refHoles_c hg'.out h)
          have hlen : (holesM N x).length ≤ 65 := by
            obtain ⟨a0, a1, a2, -⟩ := holes_spec N x
            rw [a0]
            refine Nat.le_trans (List.length_filter_le _ _) ?_
            rw [List.length_range']; omega
          have hnu := Lib.hid (fun a b ca cb V ra rb => numbers_c (holesM N x) (by omega) a b ca cb V ra rb)
          generalize holesM N x = hl at *
          clear hlen
          replace H := H.re (.step (.there (.there (.there (.here _ _)))) (.same _))
          have c := Lib.hid (hho.out _ _ H (by simp [ho'.out]))
          have hH := Lib.hid H
          clear H
          refine c.out.mono ?_
          rintro e W1 ⟨a1, c1s, rfl, H⟩
          clear c hH
          replace H := H.re (.step (.there (.there (.here _ _))) (.step (.there (.there (.here _ _))) (.step (.there (.there (.here _ _))) (.step (.there (.here _ _)) (.step (.here _ _) (.same _))))))
          clear hho
          have c0 := H.cell (o := 0) (.there (.there (.here _ _))) rfl
          have c1 := H.cell (o := 1) (.there (.there (.here _ _))) rfl
          have d0 := H.cell (o := 0) (.there (.here _ _)) rfl
          have d1 := H.cell (o := 1) (.there (.here _ _)) rfl
          have d2 := H.cell (o := 2) (.there (.here _ _)) rfl
          have z0 := H.cell (o := 0) (.here _ _) rfl
          have z1 := H.cell (o := 1) (.here _ _) rfl
          have c := Lib.hid (hrh.out _ _ H)
          have hH := Lib.hid H
          clear H
          go_wp2_with fail
          refine c.out.mono ?_
          rintro e W2 ⟨a2, c2s, rfl, H⟩
          clear c hH hrh c0 c1 d0 d1 d2 z0 z1
          have r1 := (OwnK.rd (H.ownOf (.there (.there (.there (.there (.there (.here _ _)))))))).2.1
          have r2 := (OwnK.rd (H.ownOf (.here _ _))).2.1
          have c := Lib.hid (hnu.out a1 a2 c1s c2s W2 r1 r2)
          have hH := Lib.hid H
          clear H r1 r2 hnu
          go_wp2_with fail
          refine c.out.mono ?_
          rintro e W3 ⟨rfl, k3⟩
          have H := hH.out.quiet k3
          clear hH k3 c
          replace H := H.re (.drop (.step (.here _ _) (.step (.there (.here _ _)) (.step (.there (.here _ _)) (.step (.here _ _) (.drop (.same _)))))))
          have hH := Lib.hid H
          clear H
          go_wp2_with fail
          have H := hH.out
          clear hH
          have hH := Lib.hid H
          clear H
          refine wp_region_held_drew (S := (fun W => W.cell? ⟨b4, 0, none⟩ = some (.int .u64 N) ∧ W.cell? ⟨b4, 1, none⟩ = some (.int .u64 (U x)))) (by kernel_rfl) ?_ (fun hHeld => ?_)
          · have H := hH.out.drew
            exact ⟨H.cell (o := 0) (.there (.here _ _)) rfl, H.cell (o := 1) (.there (.here _ _)) rfl⟩
          have H := hH.out.drew
          generalize World.drew W3 = w8 at *
          clear hH
          refine takeL (i := 0) rfl (by kernel_rfl) (by kernel_rfl) (by kernel_rfl) (fun _ _ _ _ h => h) hHeld ?_ (Or.inl ⟨by rfl, ?_⟩) ?_
          rotate_left
          · intro W hW
            (try dsimp only at hW)
            first | (go_simp; done) | (go_simp; with_reducible rfl)
          ((try simp only [Act.put]); (try simp only [List.setIfInBounds_toArray]); (try simp only [List.set_cons_succ]); (try simp only [List.set_cons_zero]))
          refine takeL (i := 1) rfl (by kernel_rfl) (by kernel_rfl) (by kernel_rfl) (fun _ _ _ _ h => h) hHeld ?_ (Or.inl ⟨by rfl, ?_⟩) ?_
          rotate_left
          · intro W hW
            (try dsimp only at hW)
            first | (go_simp; done) | (go_simp; with_reducible rfl)
          ((try simp only [Act.put]); (try simp only [List.setIfInBounds_toArray]); (try simp only [List.set_cons_succ]); (try simp only [List.set_cons_zero]))
          refine takeL (i := 2) rfl (by kernel_rfl) (by kernel_rfl) (by kernel_rfl) (fun _ _ _ _ h => h) hHeld ?_ (Or.inl ⟨by rfl, ?_⟩) ?_
          rotate_left
          · intro W hW
            (try dsimp only at hW)
            first | (go_simp; done) | (go_simp; with_reducible rfl)
          ((try simp only [Act.put]); (try simp only [List.setIfInBounds_toArray]); (try simp only [List.set_cons_succ]); (try simp only [List.set_cons_zero]))
          refine takeL (i := 3) rfl (by kernel_rfl) (by kernel_rfl) (by kernel_rfl) (fun _ _ _ _ h => h) hHeld ?_ (Or.inl ⟨by rfl, ?_⟩) ?_
          rotate_left
          · intro W hW
            (try dsimp only at hW)
            first | (go_simp; done) | (go_simp; with_reducible rfl)
          ((try simp only [Act.put]); (try simp only [List.setIfInBounds_toArray]); (try simp only [List.set_cons_succ]); (try simp only [List.set_cons_zero]))
          refine takeL (i := 4) rfl (by kernel_rfl) (by kernel_rfl) (by kernel_rfl) (fun _ _ _ _ h => h) hHeld ?_ (Or.inl ⟨by rfl, ?_⟩) ?_
          rotate_left
          · intro W hW
            (try dsimp only at hW)
            first | (go_simp; done) | (go_simp; with_reducible rfl)
          ((try simp only [Act.put]); (try simp only [List.setIfInBounds_toArray]); (try simp only [List.set_cons_succ]); (try simp only [List.set_cons_zero]))
          refine takeL (i := 6) rfl (by kernel_rfl) (by kernel_rfl) (by kernel_rfl) (fun _ _ _ _ h => h) hHeld ?_ (Or.inl ⟨by rfl, ?_⟩) ?_
          rotate_left
          · intro W hW
            (try dsimp only at hW)
            first | (go_simp; done) | (go_simp; with_reducible rfl)
          ((try simp only [Act.put]); (try simp only [List.setIfInBounds_toArray]); (try simp only [List.set_cons_succ]); (try simp only [List.set_cons_zero]))
          refine takeL (i := 7) rfl (by kernel_rfl) (by kernel_rfl) (by kernel_rfl) (fun _ _ _ _ h => h) hHeld ?_ (Or.inl ⟨by rfl, ?_⟩) ?_
          rotate_left
          · intro W hW
            (try dsimp only at hW)
            first | (go_simp; done) | (go_simp; with_reducible rfl)
          ((try simp only [Act.put]); (try simp only [List.setIfInBounds_toArray]); (try simp only [List.set_cons_succ]); (try simp only [List.set_cons_zero]))
          refine callL (i := 5) rfl (by kernel_rfl) (fun K hK => ?_)
          rw [if_pos (by rfl)]
          go_simp
          refine (next_c (H.re (.step (.there (.there (.here _ _))) (.same _)))).mono ?_
          rintro e w' ⟨rfl, rfl⟩
          clear hHeld
          refine hK.out _ _ ?_ (fun hHeld => ?_)
          · exact ⟨H.cell (o := 0) (.there (.here _ _)) rfl, H.cell (o := 1) (.there (.here _ _)) rfl⟩
          clear hK K
          ((try simp only [Act.put]); (try simp only [List.setIfInBounds_toArray]); (try simp only [List.set_cons_succ]); (try simp only [List.set_cons_zero]))
          refine takeL (i := 8) rfl (by kernel_rfl) (by kernel_rfl) (by kernel_rfl) (fun _ _ _ _ h => h) hHeld ?_ (Or.inl ⟨by rfl, ?_⟩) ?_
          rotate_left
          · intro W hW
            (try dsimp only at hW)
            first | (go_simp; done) | (go_simp; with_reducible rfl)
          ((try simp only [Act.put]); (try simp only [List.setIfInBounds_toArray]); (try simp only [List.set_cons_succ]); (try simp only [List.set_cons_zero]))
          refine takeL (i := 9) rfl (by kernel_rfl) (by kernel_rfl) (by kernel_rfl) (fun _ _ _ _ h => h) hHeld ?_ (Or.inl ⟨by rfl, ?_⟩) ?_
          rotate_left
          · intro W hW
            (try dsimp only at hW)
            first | (go_simp; done) | (go_simp; with_reducible rfl)
          ((try simp only [Act.put]); (try simp only [List.setIfInBounds_toArray]); (try simp only [List.set_cons_succ]); (try simp only [List.set_cons_zero]))
          refine takeL (i := 10) rfl (by kernel_rfl) (by kernel_rfl) (by kernel_rfl) (fun _ _ _ _ h => h) hHeld ?_ (Or.inl ⟨by rfl, ?_⟩) ?_
          rotate_left
          · intro W hW
            (try dsimp only at hW)
            first | (go_simp; done) | (go_simp; with_reducible rfl)
          ((try simp only [Act.put]); (try simp only [List.setIfInBounds_toArray]); (try simp only [List.set_cons_succ]); (try simp only [List.set_cons_zero]))
          refine takeL (i := 11) rfl (by kernel_rfl) (by kernel_rfl) (by kernel_rfl) (fun _ _ _ _ h => h) hHeld ?_ (Or.inl ⟨by rfl, ?_⟩) ?_
          rotate_left
          · intro W hW
            (try dsimp only at hW)
            first | (go_simp; done) | (go_simp; with_reducible rfl)
          ((try simp only [Act.put]); (try simp only [List.setIfInBounds_toArray]); (try simp only [List.set_cons_succ]); (try simp only [List.set_cons_zero]))
          refine takeL (i := 13) rfl (by kernel_rfl) (by kernel_rfl) (by kernel_rfl) (fun _ _ _ _ h => h) hHeld ?_ (Or.inl ⟨by rfl, ?_⟩) ?_
          rotate_left
          · intro W hW
            (try dsimp only at hW)
            first | (go_simp; done) | (go_simp; with_reducible rfl)
          ((try simp only [Act.put]); (try simp only [List.setIfInBounds_toArray]); (try simp only [List.set_cons_succ]); (try simp only [List.set_cons_zero]))
          refine takeL (i := 14) rfl (by kernel_rfl) (by kernel_rfl) (by kernel_rfl) (fun _ _ _ _ h => h) hHeld ?_ (Or.inl ⟨by rfl, ?_⟩) ?_
          rotate_left
          · intro W hW
            (try dsimp only at hW)
            first | (go_simp; done) | (go_simp; with_reducible rfl)
          ((try simp only [Act.put]); (try simp only [List.setIfInBounds_toArray]); (try simp only [List.set_cons_succ]); (try simp only [List.set_cons_zero]))
          refine callL (i := 12) rfl (by kernel_rfl) (fun K hK => ?_)
          rw [if_pos (by rfl)]
          go_simp
          refine (mask_c (H.re (.step (.there (.there (.here _ _))) (.same _)))).mono ?_
          rintro e w' ⟨rfl, rfl⟩
          clear hHeld
          refine hK.out _ _ ?_ (fun hHeld => ?_)
          · exact ⟨H.cell (o := 0) (.there (.here _ _)) rfl, H.cell (o := 1) (.there (.here _ _)) rfl⟩
          clear hK K
          ((try simp only [Act.put]); (try simp only [List.setIfInBounds_toArray]); (try simp only [List.set_cons_succ]); (try simp only [List.set_cons_zero]))
          refine takeL (i := 15) rfl (by kernel_rfl) (by kernel_rfl) (by kernel_rfl) (fun _ _ _ _ h => h) hHeld ?_ (Or.inl ⟨by rfl, ?_⟩) ?_
          rotate_left
          · intro W hW
            (try dsimp only at hW)
            first | (go_simp; done) | (go_simp; with_reducible rfl)
          ((try simp only [Act.put]); (try simp only [List.setIfInBounds_toArray]); (try simp only [List.set_cons_succ]); (try simp only [List.set_cons_zero]))
          refine takeL (i := 16) rfl (by kernel_rfl) (by kernel_rfl) (by kernel_rfl) (fun _ _ _ _ h => h) hHeld ?_ (Or.inl ⟨by rfl, ?_⟩) ?_
          rotate_left
          · intro W hW
            (try dsimp only at hW)
            first | (go_simp; done) | (go_simp; with_reducible rfl)
          ((try simp only [Act.put]); (try simp only [List.setIfInBounds_toArray]); (try simp only [List.set_cons_succ]); (try simp only [List.set_cons_zero]))
          refine takeL (i := 17) rfl (by kernel_rfl) (by kernel_rfl) (by kernel_rfl) (fun _ _ _ _ h => h) hHeld ?_ (Or.inl ⟨by rfl, ?_⟩) ?_
          rotate_left
          · intro W hW
            (try dsimp only at hW)
            first | (go_simp; done) | (go_simp; with_reducible rfl)
          ((try simp only [Act.put]); (try simp only [List.setIfInBounds_toArray]); (try simp only [List.set_cons_succ]); (try simp only [List.set_cons_zero]))
          refine callL (i := 18) rfl (by kernel_rfl) (fun K hK => ?_)
          rw [if_pos (by rfl)]
          have z0 := H.cell (o := 0) (.here _ _) rfl
          have z1 := H.cell (o := 1) (.here _ _) rfl
          have fz := fun o => H.free (.here _ _) o
          go_simp
          have H9 := (H.setCell 0 (.int .u64 N)).setCell 1 (.int .u64 (U x))
          generalize (w8.setCell ⟨b7, 0, none⟩ (.int .u64 N)).setCell ⟨b7, 1, none⟩ (.int .u64 (U x)) = w9 at *
          clear H z0 z1 fz hHeld
          have H := H9
          clear H9
          refine hK.out _ _ ?_ (fun hHeld => ?_)
          · exact ⟨H.cell (o := 0) (.there (.here _ _)) rfl, H.cell (o := 1) (.there (.here _ _)) rfl⟩
          clear hK K
          ((try simp only [Act.put]); (try simp only [List.setIfInBounds_toArray]); (try simp only [List.set_cons_succ]); (try simp only [List.set_cons_zero]))
          refine takeL (i := 19) rfl (by kernel_rfl) (by kernel_rfl) (by kernel_rfl) (fun _ _ _ _ h => h) hHeld ?_ (Or.inl ⟨by rfl, ?_⟩) ?_
          rotate_left
          · intro W hW
            (try dsimp only at hW)
            first | (go_simp; done) | (go_simp; with_reducible rfl)
          ((try simp only [Act.put]); (try simp only [List.setIfInBounds_toArray]); (try simp only [List.set_cons_succ]); (try simp only [List.set_cons_zero]))
          refine wpAnyH_done (by kernel_rfl) ?_ _
          have h8 := Lib.hid H
          clear H hHeld
          go_wp2_with fail
          have k0 := h8.out.cell (o := 0) (.here _ _) rfl
          have k1 := h8.out.cell (o := 1) (.here _ _) rfl
          refine bodyPost_ret (v := .tuple #[.pointer (some ⟨p, 0, none⟩), .agg #[.int .u64 N, .int .u64 (U x)], .bool true]) ?_ rfl ?_
          · simp [results, Tryd.results22, go_sem, k0, k1]
          · exact ⟨p, N, x, rfl, hg'.out, h8.out.re (.step (.there (.there (.here _ _))) (.drop (.drop (.drop (.same _)))))⟩
        · have e3 : (k == 3) = false := by simp; omega
          by_cases hk4 : k = 4
          · have e4 : (k == 4) = true := by simp; omega
            clear hk4
            go_wp2_with fail
            generalize ((w.alloc (.cells #[.int .u64 N, .int .u64 (U x)] 50)).alloc (.cells #[.int .i64 k, .int .u64 n, .int .u64 (U y)] 55)).alloc (.cells #[.int .u64 0, .int .u64 0] 50) = wa at *
            generalize w.heap.size + 1 + 1 = b7 at *
            generalize w.heap.size + 1 = b5 at *
            generalize w.heap.size = b4 at *
            have H := hH0.out
            clear hH0
            have hlw := Lib.hid (fun V L (h : SL V (winB p true (N : Int) (U x) :: L)) => lastW_c h (U_nn x) (U_lt64 x))
            have hrl := Lib.hid (fun V => refLast_c hg'.out V)
            generalize lastA N (U x) = la at *
            obtain ⟨lv, lq⟩ := la
            dsimp only at hlw hrl
            replace H := H.re (.step (.there (.there (.there (.here _ _)))) (.same _))
            have c := Lib.hid (hlw.out _ _ H)
            have hH := Lib.hid H
            clear H
            refine c.out.mono ?_
            rintro e W1 ⟨rfl, H⟩
            clear c hH
            replace H := H.re (.step (.there (.here _ _)) (.step (.there (.there (.here _ _))) (.step (.here _ _) (.step (.here _ _) (.same _)))))
            clear hlw
            have c0 := H.cell (o := 0) (.there (.here _ _)) rfl
            have c1 := H.cell (o := 1) (.there (.here _ _)) rfl
            have d0 := H.cell (o := 0) (.there (.there (.there (.here _ _)))) rfl
            have d1 := H.cell (o := 1) (.there (.there (.there (.here _ _)))) rfl
            have d2 := H.cell (o := 2) (.there (.there (.there (.here _ _)))) rfl
            have z0 := H.cell (o := 0) (.here _ _) rfl
            have z1 := H.cell (o := 1) (.here _ _) rfl
            have hH := Lib.hid H
            clear H
            go_wp2_with fail
            refine (hrl.out _).mono ?_
            rintro e W3 ⟨rfl, k3⟩
            have H := hH.out.quiet k3
            clear hH k3 hrl c0 c1 d0 d1 d2 z0 z1
            have hH := Lib.hid H
            clear H
            go_wp2_with fail
            have H := hH.out
            clear hH
            have hH := Lib.hid H
            clear H
            refine wp_region_held_drew (S := (fun W => W.cell? ⟨b4, 0, none⟩ = some (.int .u64 N) ∧ W.cell? ⟨b4, 1, none⟩ = some (.int .u64 (U x)))) (by kernel_rfl) ?_ (fun hHeld => ?_)
            · have H := hH.out.drew
              exact ⟨H.cell (o := 0) (.there (.here _ _)) rfl, H.cell (o := 1) (.there (.here _ _)) rfl⟩
            have H := hH.out.drew
            generalize World.drew W3 = w8 at *
            clear hH
            refine takeL (i := 0) rfl (by kernel_rfl) (by kernel_rfl) (by kernel_rfl) (fun _ _ _ _ h => h) hHeld ?_ (Or.inl ⟨by rfl, ?_⟩) ?_
            rotate_left
            · intro W hW
              (try dsimp only at hW)
              first | (go_simp; done) | (go_simp; with_reducible rfl)
            ((try simp only [Act.put]); (try simp only [List.setIfInBounds_toArray]); (try simp only [List.set_cons_succ]); (try simp only [List.set_cons_zero]))
            refine takeL (i := 1) rfl (by kernel_rfl) (by kernel_rfl) (by kernel_rfl) (fun _ _ _ _ h => h) hHeld ?_ (Or.inl ⟨by rfl, ?_⟩) ?_
            rotate_left
            · intro W hW
              (try dsimp only at hW)
              first | (go_simp; done) | (go_simp; with_reducible rfl)
            ((try simp only [Act.put]); (try simp only [List.setIfInBounds_toArray]); (try simp only [List.set_cons_succ]); (try simp only [List.set_cons_zero]))
            refine takeL (i := 2) rfl (by kernel_rfl) (by kernel_rfl) (by kernel_rfl) (fun _ _ _ _ h => h) hHeld ?_ (Or.inl ⟨by rfl, ?_⟩) ?_
            rotate_left
            · intro W hW
              (try dsimp only at hW)
              first | (go_simp; done) | (go_simp; with_reducible rfl)
            ((try simp only [Act.put]); (try simp only [List.setIfInBounds_toArray]); (try simp only [List.set_cons_succ]); (try simp only [List.set_cons_zero]))
            refine takeL (i := 3) rfl (by kernel_rfl) (by kernel_rfl) (by kernel_rfl) (fun _ _ _ _ h => h) hHeld ?_ (Or.inl ⟨by rfl, ?_⟩) ?_
            rotate_left
            · intro W hW
              (try dsimp only at hW)
              first | (go_simp; done) | (go_simp; with_reducible rfl)
            ((try simp only [Act.put]); (try simp only [List.setIfInBounds_toArray]); (try simp only [List.set_cons_succ]); (try simp only [List.set_cons_zero]))
            refine takeL (i := 4) rfl (by kernel_rfl) (by kernel_rfl) (by kernel_rfl) (fun _ _ _ _ h => h) hHeld ?_ (Or.inl ⟨by rfl, ?_⟩) ?_
            rotate_left
            · intro W hW
              (try dsimp only at hW)
              first | (go_simp; done) | (go_simp; with_reducible rfl)
            ((try simp only [Act.put]); (try simp only [List.setIfInBounds_toArray]); (try simp only [List.set_cons_succ]); (try simp only [List.set_cons_zero]))
            refine takeL (i := 6) rfl (by kernel_rfl) (by kernel_rfl) (by kernel_rfl) (fun _ _ _ _ h => h) hHeld ?_ (Or.inl ⟨by rfl, ?_⟩) ?_
            rotate_left
            · intro W hW
              (try dsimp only at hW)
              first | (go_simp; done) | (go_simp; with_reducible rfl)
            ((try simp only [Act.put]); (try simp only [List.setIfInBounds_toArray]); (try simp only [List.set_cons_succ]); (try simp only [List.set_cons_zero]))
            refine takeL (i := 7) rfl (by kernel_rfl) (by kernel_rfl) (by kernel_rfl) (fun _ _ _ _ h => h) hHeld ?_ (Or.inl ⟨by rfl, ?_⟩) ?_
            rotate_left
            · intro W hW
              (try dsimp only at hW)
              first | (go_simp; done) | (go_simp; with_reducible rfl)
            ((try simp only [Act.put]); (try simp only [List.setIfInBounds_toArray]); (try simp only [List.set_cons_succ]); (try simp only [List.set_cons_zero]))
            refine callL (i := 5) rfl (by kernel_rfl) (fun K hK => ?_)
            rw [if_pos (by rfl)]
            go_simp
            refine (next_c (H.re (.step (.there (.there (.here _ _))) (.same _)))).mono ?_
            rintro e w' ⟨rfl, rfl⟩
            clear hHeld
            refine hK.out _ _ ?_ (fun hHeld => ?_)
            · exact ⟨H.cell (o := 0) (.there (.here _ _)) rfl, H.cell (o := 1) (.there (.here _ _)) rfl⟩
            clear hK K
            ((try simp only [Act.put]); (try simp only [List.setIfInBounds_toArray]); (try simp only [List.set_cons_succ]); (try simp only [List.set_cons_zero]))
            refine takeL (i := 8) rfl (by kernel_rfl) (by kernel_rfl) (by kernel_rfl) (fun _ _ _ _ h => h) hHeld ?_ (Or.inl ⟨by rfl, ?_⟩) ?_
            rotate_left
            · intro W hW
              (try dsimp only at hW)
              first | (go_simp; done) | (go_simp; with_reducible rfl)
            ((try simp only [Act.put]); (try simp only [List.setIfInBounds_toArray]); (try simp only [List.set_cons_succ]); (try simp only [List.set_cons_zero]))
            refine takeL (i := 9) rfl (by kernel_rfl) (by kernel_rfl) (by kernel_rfl) (fun _ _ _ _ h => h) hHeld ?_ (Or.inl ⟨by rfl, ?_⟩) ?_
            rotate_left
            · intro W hW
              (try dsimp only at hW)
              first | (go_simp; done) | (go_simp; with_reducible rfl)
            ((try simp only [Act.put]); (try simp only [List.setIfInBounds_toArray]); (try simp only [List.set_cons_succ]); (try simp only [List.set_cons_zero]))
            refine takeL (i := 10) rfl (by kernel_rfl) (by kernel_rfl) (by kernel_rfl) (fun _ _ _ _ h => h) hHeld ?_ (Or.inl ⟨by rfl, ?_⟩) ?_
            rotate_left
            · intro W hW
              (try dsimp only at hW)
              first | (go_simp; done) | (go_simp; with_reducible rfl)
            ((try simp only [Act.put]); (try simp only [List.setIfInBounds_toArray]); (try simp only [List.set_cons_succ]); (try simp only [List.set_cons_zero]))
            refine takeL (i := 11) rfl (by kernel_rfl) (by kernel_rfl) (by kernel_rfl) (fun _ _ _ _ h => h) hHeld ?_ (Or.inl ⟨by rfl, ?_⟩) ?_
            rotate_left
            · intro W hW
              (try dsimp only at hW)
              first | (go_simp; done) | (go_simp; with_reducible rfl)
            ((try simp only [Act.put]); (try simp only [List.setIfInBounds_toArray]); (try simp only [List.set_cons_succ]); (try simp only [List.set_cons_zero]))
            refine takeL (i := 13) rfl (by kernel_rfl) (by kernel_rfl) (by kernel_rfl) (fun _ _ _ _ h => h) hHeld ?_ (Or.inl ⟨by rfl, ?_⟩) ?_
            rotate_left
            · intro W hW
              (try dsimp only at hW)
              first | (go_simp; done) | (go_simp; with_reducible rfl)
            ((try simp only [Act.put]); (try simp only [List.setIfInBounds_toArray]); (try simp only [List.set_cons_succ]); (try simp only [List.set_cons_zero]))
            refine takeL (i := 14) rfl (by kernel_rfl) (by kernel_rfl) (by kernel_rfl) (fun _ _ _ _ h => h) hHeld ?_ (Or.inl ⟨by rfl, ?_⟩) ?_
            rotate_left
            · intro W hW
              (try dsimp only at hW)
              first | (go_simp; done) | (go_simp; with_reducible rfl)
            ((try simp only [Act.put]); (try simp only [List.setIfInBounds_toArray]); (try simp only [List.set_cons_succ]); (try simp only [List.set_cons_zero]))
            refine callL (i := 12) rfl (by kernel_rfl) (fun K hK => ?_)
            rw [if_pos (by rfl)]
            go_simp
            refine (mask_c (H.re (.step (.there (.there (.here _ _))) (.same _)))).mono ?_
            rintro e w' ⟨rfl, rfl⟩
            clear hHeld
            refine hK.out _ _ ?_ (fun hHeld => ?_)
            · exact ⟨H.cell (o := 0) (.there (.here _ _)) rfl, H.cell (o := 1) (.there (.here _ _)) rfl⟩
            clear hK K
            ((try simp only [Act.put]); (try simp only [List.setIfInBounds_toArray]); (try simp only [List.set_cons_succ]); (try simp only [List.set_cons_zero]))
            refine takeL (i := 15) rfl (by kernel_rfl) (by kernel_rfl) (by kernel_rfl) (fun _ _ _ _ h => h) hHeld ?_ (Or.inl ⟨by rfl, ?_⟩) ?_
            rotate_left
            · intro W hW
              (try dsimp only at hW)
              first | (go_simp; done) | (go_simp; with_reducible rfl)
            ((try simp only [Act.put]); (try simp only [List.setIfInBounds_toArray]); (try simp only [List.set_cons_succ]); (try simp only [List.set_cons_zero]))
            refine takeL (i := 16) rfl (by kernel_rfl) (by kernel_rfl) (by kernel_rfl) (fun _ _ _ _ h => h) hHeld ?_ (Or.inl ⟨by rfl, ?_⟩) ?_
            rotate_left
            · intro W hW
              (try dsimp only at hW)
              first | (go_simp; done) | (go_simp; with_reducible rfl)
            ((try simp only [Act.put]); (try simp only [List.setIfInBounds_toArray]); (try simp only [List.set_cons_succ]); (try simp only [List.set_cons_zero]))
            refine takeL (i := 17) rfl (by kernel_rfl) (by kernel_rfl) (by kernel_rfl) (fun _ _ _ _ h => h) hHeld ?_ (Or.inl ⟨by rfl, ?_⟩) ?_
            rotate_left
            · intro W hW
              (try dsimp only at hW)
              first | (go_simp; done) | (go_simp; with_reducible rfl)
            ((try simp only [Act.put]); (try simp only [List.setIfInBounds_toArray]); (try simp only [List.set_cons_succ]); (try simp only [List.set_cons_zero]))
            refine callL (i := 18) rfl (by kernel_rfl) (fun K hK => ?_)
            rw [if_pos (by rfl)]
            have z0 := H.cell (o := 0) (.here _ _) rfl
            have z1 := H.cell (o := 1) (.here _ _) rfl
            have fz := fun o => H.free (.here _ _) o
            go_simp
            have H9 := (H.setCell 0 (.int .u64 N)).setCell 1 (.int .u64 (U x))
            generalize (w8.setCell ⟨b7, 0, none⟩ (.int .u64 N)).setCell ⟨b7, 1, none⟩ (.int .u64 (U x)) = w9 at *
            clear H z0 z1 fz hHeld
            have H := H9
            clear H9
            refine hK.out _ _ ?_ (fun hHeld => ?_)
            · exact ⟨H.cell (o := 0) (.there (.here _ _)) rfl, H.cell (o := 1) (.there (.here _ _)) rfl⟩
            clear hK K
            ((try simp only [Act.put]); (try simp only [List.setIfInBounds_toArray]); (try simp only [List.set_cons_succ]); (try simp only [List.set_cons_zero]))
            refine takeL (i := 19) rfl (by kernel_rfl) (by kernel_rfl) (by kernel_rfl) (fun _ _ _ _ h => h) hHeld ?_ (Or.inl ⟨by rfl, ?_⟩) ?_
            rotate_left
            · intro W hW
              (try dsimp only at hW)
              first | (go_simp; done) | (go_simp; with_reducible rfl)
            ((try simp only [Act.put]); (try simp only [List.setIfInBounds_toArray]); (try simp only [List.set_cons_succ]); (try simp only [List.set_cons_zero]))
            refine wpAnyH_done (by kernel_rfl) ?_ _
            have h8 := Lib.hid H
            clear H hHeld
            go_wp2_with fail
            have k0 := h8.out.cell (o := 0) (.here _ _) rfl
            have k1 := h8.out.cell (o := 1) (.here _ _) rfl
            refine bodyPost_ret (v := .tuple #[.pointer (some ⟨p, 0, none⟩), .agg #[.int .u64 N, .int .u64 (U x)], .bool true]) ?_ rfl ?_
            · simp [results, Tryd.results22, go_sem, k0, k1]
            · exact ⟨p, N, x, rfl, hg'.out, h8.out.re (.step (.there (.there (.here _ _))) (.drop (.drop (.drop (.same _)))))⟩
          · have e4 : (k == 4) = false := by simp; omega
            by_cases hk5 : k = 5
            · have e5 : (k == 5) = true := by simp; omega
              clear hk5
              go_wp2_with fail
              generalize ((w.alloc (.cells #[.int .u64 N, .int .u64 (U x)] 50)).alloc (.cells #[.int .i64 k, .int .u64 n, .int .u64 (U y)] 55)).alloc (.cells #[.int .u64 0, .int .u64 0] 50) = wa at *
              generalize w.heap.size + 1 + 1 = b7 at *
              generalize w.heap.size + 1 = b5 at *
              generalize w.heap.size = b4 at *
              have H := hH0.out
              clear hH0
              replace H := H.re (.step (.there (.there (.there (.here _ _)))) (.same _))
              have c := Lib.hid (copy_c H)
              have hH := Lib.hid H
              clear H
              refine c.out.mono ?_
              rintro e W1 ⟨q, rfl, H⟩
              clear c hH
              replace H := H.re (.step (.there (.here _ _)) (.same _))
              have c0 := H.cell (o := 0) (.there (.there (.there (.there (.here _ _))))) rfl
              have c1 := H.cell (o := 1) (.there (.there (.there (.there (.here _ _))))) rfl
              have d0 := H.cell (o := 0) (.there (.there (.there (.here _ _)))) rfl
              have d1 := H.cell (o := 1) (.there (.there (.there (.here _ _)))) rfl
              have d2 := H.cell (o := 2) (.there (.there (.there (.here _ _)))) rfl
              have z0 := H.cell (o := 0) (.there (.there (.here _ _))) rfl
              have z1 := H.cell (o := 1) (.there (.there (.here _ _))) rfl
              have c := Lib.hid (keepL H (next_c H))
              have hH := Lib.hid H
              clear H
              go_wp2_with fail
              refine c.out.mono ?_
              rintro e W2 ⟨rfl, H⟩
              clear c hH
              clear c0 c1 d0 d1 d2 z0 z1
              have c0 := H.cell (o := 0) (.there (.there (.there (.there (.here _ _))))) rfl
              have c1 := H.cell (o := 1) (.there (.there (.there (.there (.here _ _))))) rfl
              have d0 := H.cell (o := 0) (.there (.there (.there (.here _ _)))) rfl
              have d1 := H.cell (o := 1) (.there (.there (.there (.here _ _)))) rfl
              have d2 := H.cell (o := 2) (.there (.there (.there (.here _ _)))) rfl
              have z0 := H.cell (o := 0) (.there (.there (.here _ _))) rfl
              have z1 := H.cell (o := 1) (.there (.there (.here _ _))) rfl
              have c := Lib.hid (meet_some (n := N) H (by simp [ho'.out]) ht'.out hg'.out)
              have hH := Lib.hid H
              clear H
              go_wp2_with fail
              refine c.out.mono ?_
              rintro e W3 ⟨b1, er1, N1, x1, rfl, hg1, H⟩
              clear c hH
              clear c0 c1 d0 d1 d2 z0 z1
              have n1 : N1 ≤ 4611686018427387904 := hg1.next
              obtain ⟨M1, hM1⟩ : ∃ M1, N1 + 1 = M1 := ⟨_, rfl⟩
              have e1 : (N1 : Int) + 1 = (M1 : Int) := by omega
              clear hM1
              have hg1' := Lib.hid hg1
              clear hg1
              have c0 := H.cell (o := 0) (.there (.there (.there (.there (.here _ _))))) rfl
              have c1 := H.cell (o := 1) (.there (.there (.there (.there (.here _ _))))) rfl
              have d0 := H.cell (o := 0) (.there (.there (.there (.here _ _)))) rfl
              have d1 := H.cell (o := 1) (.there (.there (.there (.here _ _)))) rfl
              have d2 := H.cell (o := 2) (.there (.there (.there (.here _ _)))) rfl
              have z0 := H.cell (o := 0) (.there (.there (.here _ _))) rfl
              have z1 := H.cell (o := 1) (.there (.there (.here _ _))) rfl
              have c := Lib.hid (keepL H (next_c H))
              have hH := Lib.hid H
              clear H
              go_wp2_with fail
              refine c.out.mono ?_
              rintro e W4 ⟨rfl, H⟩
              clear c hH
              clear c0 c1 d0 d1 d2 z0 z1
              have c0 := H.cell (o := 0) (.there (.there (.there (.there (.here _ _))))) rfl
              have c1 := H.cell (o := 1) (.there (.there (.there (.there (.here _ _))))) rfl
              have d0 := H.cell (o := 0) (.there (.there (.there (.here _ _)))) rfl
              have d1 := H.cell (o := 1) (.there (.there (.there (.here _ _)))) rfl
              have d2 := H.cell (o := 2) (.there (.there (.there (.here _ _)))) rfl
              have z0 := H.cell (o := 0) (.there (.there (.here _ _))) rfl
              have z1 := H.cell (o := 1) (.there (.there (.here _ _))) rfl
              have c := Lib.hid ((told_some (N2 := M1) (x2 := 5#64) H (by simp [ho'.out]) ht'.out hg1'.out))
              have hH := Lib.hid H
              clear H
              go_wp2_with fail
              refine c.out.mono ?_
              rintro e W5 ⟨a2, er2, N2, x2, rfl, H⟩
              clear c hH
              clear c0 c1 d0 d1 d2 z0 z1
              replace H := H.re (.step (.there (.there (.here _ _))) (.step (.there (.there (.there (.here _ _)))) (.step (.there (.here _ _)) (.step (.there (.here _ _)) (.same _)))))
              replace H := H.re (L' := .blk b7 [.int .u64 0, .int .u64 0] 50 :: .blk b4 [.int .u64 N, .int .u64 (U x)] 50 :: winB q true (N : Int) (U x) :: .blk b5 [.int .i64 k, .int .u64 n, .int .u64 (U y)] 55 :: L) (.step (.here _ _) (.step (.here _ _) (.step (.here _ _) (.step (.here _ _) (.drop (.same _))))))
              have c0 := H.cell (o := 0) (.there (.here _ _)) rfl
              have c1 := H.cell (o := 1) (.there (.here _ _)) rfl
              have d0 := H.cell (o := 0) (.there (.there (.there (.here _ _)))) rfl
              have d1 := H.cell (o := 1) (.there (.there (.there (.here _ _)))) rfl
              have d2 := H.cell (o := 2) (.there (.there (.there (.here _ _)))) rfl
              have z0 := H.cell (o := 0) (.here _ _) rfl
              have z1 := H.cell (o := 1) (.here _ _) rfl
              have hH := Lib.hid H
              clear H
              go_wp2_with fail
              have H := hH.out
              clear hH c0 c1 d0 d1 d2 z0 z1
              have hH := Lib.hid H
              clear H
              refine wp_region_held_drew (S := (fun W => W.cell? ⟨b4, 0, none⟩ = some (.int .u64 N) ∧ W.cell? ⟨b4, 1, none⟩ = some (.int .u64 (U x)))) (by kernel_rfl) ?_ (fun hHeld => ?_)
              · have H := hH.out.drew
                exact ⟨H.cell (o := 0) (.there (.here _ _)) rfl, H.cell (o := 1) (.there (.here _ _)) rfl⟩
              have H := hH.out.drew
              generalize World.drew W5 = w8 at *
              clear hH
              refine takeL (i := 0) rfl (by kernel_rfl) (by kernel_rfl) (by kernel_rfl) (fun _ _ _ _ h => h) hHeld ?_ (Or.inl ⟨by rfl, ?_⟩) ?_
              rotate_left
              · intro W hW
                (try dsimp only at hW)
                first | (go_simp; done) | (go_simp; with_reducible rfl)
              ((try simp only [Act.put]); (try simp only [List.setIfInBounds_toArray]); (try simp only [List.set_cons_succ]); (try simp only [List.set_cons_zero]))
              refine takeL (i := 1) rfl (by kernel_rfl) (by kernel_rfl) (by kernel_rfl) (fun _ _ _ _ h => h) hHeld ?_ (Or.inl ⟨by rfl, ?_⟩) ?_
              rotate_left
              · intro W hW
                (try dsimp only at hW)
                first | (go_simp; done) | (go_simp; with_reducible rfl)
              ((try simp only [Act.put]); (try simp only [List.setIfInBounds_toArray]); (try simp only [List.set_cons_succ]); (try simp only [List.set_cons_zero]))
              refine takeL (i := 2) rfl (by kernel_rfl) (by kernel_rfl) (by kernel_rfl) (fun _ _ _ _ h => h) hHeld ?_ (Or.inl ⟨by rfl, ?_⟩) ?_
              rotate_left
              · intro W hW
                (try dsimp only at hW)
                first | (go_simp; done) | (go_simp; with_reducible rfl)
              ((try simp only [Act.put]); (try simp only [List.setIfInBounds_toArray]); (try simp only [List.set_cons_succ]); (try simp only [List.set_cons_zero]))
              refine takeL (i := 3) rfl (by kernel_rfl) (by kernel_rfl) (by kernel_rfl) (fun _ _ _ _ h => h) hHeld ?_ (Or.inl ⟨by rfl, ?_⟩) ?_
              rotate_left
              · intro W hW
                (try dsimp only at hW)
                first | (go_simp; done) | (go_simp; with_reducible rfl)
              ((try simp only [Act.put]); (try simp only [List.setIfInBounds_toArray]); (try simp only [List.set_cons_succ]); (try simp only [List.set_cons_zero]))
              refine takeL (i := 4) rfl (by kernel_rfl) (by kernel_rfl) (by kernel_rfl) (fun _ _ _ _ h => h) hHeld ?_ (Or.inl ⟨by rfl, ?_⟩) ?_
              rotate_left
              · intro W hW
                (try dsimp only at hW)
                first | (go_simp; done) | (go_simp; with_reducible rfl)
              ((try simp only [Act.put]); (try simp only [List.setIfInBounds_toArray]); (try simp only [List.set_cons_succ]); (try simp only [List.set_cons_zero]))
              refine takeL (i := 6) rfl (by kernel_rfl) (by kernel_rfl) (by kernel_rfl) (fun _ _ _ _ h => h) hHeld ?_ (Or.inl ⟨by rfl, ?_⟩) ?_
              rotate_left
              · intro W hW
                (try dsimp only at hW)
                first | (go_simp; done) | (go_simp; with_reducible rfl)
              ((try simp only [Act.put]); (try simp only [List.setIfInBounds_toArray]); (try simp only [List.set_cons_succ]); (try simp only [List.set_cons_zero]))
              refine takeL (i := 7) rfl (by kernel_rfl) (by kernel_rfl) (by kernel_rfl) (fun _ _ _ _ h => h) hHeld ?_ (Or.inl ⟨by rfl, ?_⟩) ?_
              rotate_left
              · intro W hW
                (try dsimp only at hW)
                first | (go_simp; done) | (go_simp; with_reducible rfl)
              ((try simp only [Act.put]); (try simp only [List.setIfInBounds_toArray]); (try simp only [List.set_cons_succ]); (try simp only [List.set_cons_zero]))
              refine callL (i := 5) rfl (by kernel_rfl) (fun K hK => ?_)
              rw [if_pos (by rfl)]
              go_simp
              refine (next_c (H.re (.step (.there (.there (.here _ _))) (.same _)))).mono ?_
              rintro e w' ⟨rfl, rfl⟩
              clear hHeld
              refine hK.out _ _ ?_ (fun hHeld => ?_)
              · exact ⟨H.cell (o := 0) (.there (.here _ _)) rfl, H.cell (o := 1) (.there (.here _ _)) rfl⟩
              clear hK K
              ((try simp only [Act.put]); (try simp only [List.setIfInBounds_toArray]); (try simp only [List.set_cons_succ]); (try simp only [List.set_cons_zero]))
              refine takeL (i := 8) rfl (by kernel_rfl) (by kernel_rfl) (by kernel_rfl) (fun _ _ _ _ h => h) hHeld ?_ (Or.inl ⟨by rfl, ?_⟩) ?_
              rotate_left
              · intro W hW
                (try dsimp only at hW)
                first | (go_simp; done) | (go_simp; with_reducible rfl)
              ((try simp only [Act.put]); (try simp only [List.setIfInBounds_toArray]); (try simp only [List.set_cons_succ]); (try simp only [List.set_cons_zero]))
              refine takeL (i := 9) rfl (by kernel_rfl) (by kernel_rfl) (by kernel_rfl) (fun _ _ _ _ h => h) hHeld ?_ (Or.inl ⟨by rfl, ?_⟩) ?_
              rotate_left
              · intro W hW
                (try dsimp only at hW)
                first | (go_simp; done) | (go_simp; with_reducible rfl)
              ((try simp only [Act.put]); (try simp only [List.setIfInBounds_toArray]); (try simp only [List.set_cons_succ]); (try simp only [List.set_cons_zero]))
              refine takeL (i := 10) rfl (by kernel_rfl) (by kernel_rfl) (by kernel_rfl) (fun _ _ _ _ h => h) hHeld ?_ (Or.inl ⟨by rfl, ?_⟩) ?_
              rotate_left
              · intro W hW
                (try dsimp only at hW)
                first | (go_simp; done) | (go_simp; with_reducible rfl)
              ((try simp only [Act.put]); (try simp only [List.setIfInBounds_toArray]); (try simp only [List.set_cons_succ]); (try simp only [List.set_cons_zero]))
              refine takeL (i := 11) rfl (by kernel_rfl) (by kernel_rfl) (by kernel_rfl) (fun _ _ _ _ h => h) hHeld ?_ (Or.inl ⟨by rfl, ?_⟩) ?_
              rotate_left
              · intro W hW
                (try dsimp only at hW)
                first | (go_simp; done) | (go_simp; with_reducible rfl)
              ((try simp only [Act.put]); (try simp only [List.setIfInBounds_toArray]); (try simp only [List.set_cons_succ]); (try simp only [List.set_cons_zero]))
              refine takeL (i := 13) rfl (by kernel_rfl) (by kernel_rfl) (by kernel_rfl) (fun _ _ _ _ h => h) hHeld ?_ (Or.inl ⟨by rfl, ?_⟩) ?_
              rotate_left
              · intro W hW
                (try dsimp only at hW)
                first | (go_simp; done) | (go_simp; with_reducible rfl)
              ((try simp only [Act.put]); (try simp only [List.setIfInBounds_toArray]); (try simp only [List.set_cons_succ]); (try simp only [List.set_cons_zero]))
              refine takeL (i := 14) rfl (by kernel_rfl) (by kernel_rfl) (by kernel_rfl) (fun _ _ _ _ h => h) hHeld ?_ (Or.inl ⟨by rfl, ?_⟩) ?_
              rotate_left
              · intro W hW
                (try dsimp only at hW)
                first | (go_simp; done) | (go_simp; with_reducible rfl)
              ((try simp only [Act.put]); (try simp only [List.setIfInBounds_toArray]); (try simp only [List.set_cons_succ]); (try simp only [List.set_cons_zero]))
              refine callL (i := 12) rfl (by kernel_rfl) (fun K hK => ?_)
              rw [if_pos (by rfl)]
              go_simp
              refine (mask_c (H.re (.step (.there (.there (.here _ _))) (.same _)))).mono ?_
              rintro e w' ⟨rfl, rfl⟩
              clear hHeld
              refine hK.out _ _ ?_ (fun hHeld => ?_)
              · exact ⟨H.cell (o := 0) (.there (.here _ _)) rfl, H.cell (o := 1) (.there (.here _ _)) rfl⟩
              clear hK K
              ((try simp only [Act.put]); (try simp only [List.setIfInBounds_toArray]); (try simp only [List.set_cons_succ]); (try simp only [List.set_cons_zero]))
              refine takeL (i := 15) rfl (by kernel_rfl) (by kernel_rfl) (by kernel_rfl) (fun _ _ _ _ h => h) hHeld ?_ (Or.inl ⟨by rfl, ?_⟩) ?_
              rotate_left
              · intro W hW
                (try dsimp only at hW)
                first | (go_simp; done) | (go_simp; with_reducible rfl)
              ((try simp only [Act.put]); (try simp only [List.setIfInBounds_toArray]); (try simp only [List.set_cons_succ]); (try simp only [List.set_cons_zero]))
              refine takeL (i := 16) rfl (by kernel_rfl) (by kernel_rfl) (by kernel_rfl) (fun _ _ _ _ h => h) hHeld ?_ (Or.inl ⟨by rfl, ?_⟩) ?_
              rotate_left
              · intro W hW
                (try dsimp only at hW)
                first | (go_simp; done) | (go_simp; with_reducible rfl)
              ((try simp only [Act.put]); (try simp only [List.setIfInBounds_toArray]); (try simp only [List.set_cons_succ]); (try simp only [List.set_cons_zero]))
              refine takeL (i := 17) rfl (by kernel_rfl) (by kernel_rfl) (by kernel_rfl) (fun _ _ _ _ h => h) hHeld ?_ (Or.inl ⟨by rfl, ?_⟩) ?_
              rotate_left
              · intro W hW
                (try dsimp only at hW)
                first | (go_simp; done) | (go_simp; with_reducible rfl)
              ((try simp only [Act.put]); (try simp only [List.setIfInBounds_toArray]); (try simp only [List.set_cons_succ]); (try simp only [List.set_cons_zero]))
              refine callL (i := 18) rfl (by kernel_rfl) (fun K hK => ?_)
              rw [if_pos (by rfl)]
              have z0 := H.cell (o := 0) (.here _ _) rfl
              have z1 := H.cell (o := 1) (.here _ _) rfl
              have fz := fun o => H.free (.here _ _) o
              go_simp
              have H9 := (H.setCell 0 (.int .u64 N)).setCell 1 (.int .u64 (U x))
              generalize (w8.setCell ⟨b7, 0, none⟩ (.int .u64 N)).setCell ⟨b7, 1, none⟩ (.int .u64 (U x)) = w9 at *
              clear H z0 z1 fz hHeld
              have H := H9
              clear H9
              refine hK.out _ _ ?_ (fun hHeld => ?_)
              · exact ⟨H.cell (o := 0) (.there (.here _ _)) rfl, H.cell (o := 1) (.there (.here _ _)) rfl⟩
              clear hK K
              ((try simp only [Act.put]); (try simp only [List.setIfInBounds_toArray]); (try simp only [List.set_cons_succ]); (try simp only [List.set_cons_zero]))
              refine takeL (i := 19) rfl (by kernel_rfl) (by kernel_rfl) (by kernel_rfl) (fun _ _ _ _ h => h) hHeld ?_ (Or.inl ⟨by rfl, ?_⟩) ?_
              rotate_left
              · intro W hW
                (try dsimp only at hW)
                first | (go_simp; done) | (go_simp; with_reducible rfl)
              ((try simp only [Act.put]); (try simp only [List.setIfInBounds_toArray]); (try simp only [List.set_cons_succ]); (try simp only [List.set_cons_zero]))
              refine wpAnyH_done (by kernel_rfl) ?_ _
              have h8 := Lib.hid H
              clear H hHeld
              go_wp2_with fail
              have k0 := h8.out.cell (o := 0) (.here _ _) rfl
              have k1 := h8.out.cell (o := 1) (.here _ _) rfl
              refine bodyPost_ret (v := .tuple #[.pointer (some ⟨q, 0, none⟩), .agg #[.int .u64 N, .int .u64 (U x)], .bool true]) ?_ rfl ?_
              · simp [results, Tryd.results22, go_sem, k0, k1]
              · exact ⟨q, N, x, rfl, hg'.out, h8.out.re (.step (.there (.there (.here _ _))) (.drop (.drop (.drop (.same _)))))⟩
            · have e5 : (k == 5) = false := by simp; omega
              clear hk0 hk1 hk2 hk3 hk4 hk5
              go_wp2_with fail
              generalize ((w.alloc (.cells #[.int .u64 N, .int .u64 (U x)] 50)).alloc (.cells #[.int .i64 k, .int .u64 n, .int .u64 (U y)] 55)).alloc (.cells #[.int .u64 0, .int .u64 0] 50) = wa at *
              generalize w.heap.size + 1 + 1 = b7 at *
              generalize w.heap.size + 1 = b5 at *
              generalize w.heap.size = b4 at *
              have H := hH0.out
              clear hH0
              replace H := H.re (.step (.here _ _) (.step (.there (.here _ _)) (.step (.there (.here _ _)) (.step (.here _ _) (.same _)))))
              have hH := Lib.hid H
              clear H
              refine wp_region_held_drew (S := (fun W => W.cell? ⟨b4, 0, none⟩ = some (.int .u64 N) ∧ W.cell? ⟨b4, 1, none⟩ = some (.int .u64 (U x)))) (by kernel_rfl) ?_ (fun hHeld => ?_)
              · have H := hH.out.drew
                exact ⟨H.cell (o := 0) (.there (.here _ _)) rfl, H.cell (o := 1) (.there (.here _ _)) rfl⟩
              have H := hH.out.drew
              generalize World.drew wa = w8 at *
              clear hH
              refine takeL (i := 0) rfl (by kernel_rfl) (by kernel_rfl) (by kernel_rfl) (fun _ _ _ _ h => h) hHeld ?_ (Or.inl ⟨by rfl, ?_⟩) ?_
              rotate_left
              · intro W hW
                (try dsimp only at hW)
                first | (go_simp; done) | (go_simp; with_reducible rfl)
              ((try simp only [Act.put]); (try simp only [List.setIfInBounds_toArray]); (try simp only [List.set_cons_succ]); (try simp only [List.set_cons_zero]))
              refine takeL (i := 1) rfl (by kernel_rfl) (by kernel_rfl) (by kernel_rfl) (fun _ _ _ _ h => h) hHeld ?_ (Or.inl ⟨by rfl, ?_⟩) ?_
              rotate_left
              · intro W hW
                (try dsimp only at hW)
                first | (go_simp; done) | (go_simp; with_reducible rfl)
              ((try simp only [Act.put]); (try simp only [List.setIfInBounds_toArray]); (try simp only [List.set_cons_succ]); (try simp only [List.set_cons_zero]))
              refine takeL (i := 2) rfl (by kernel_rfl) (by kernel_rfl) (by kernel_rfl) (fun _ _ _ _ h => h) hHeld ?_ (Or.inl ⟨by rfl, ?_⟩) ?_
              rotate_left
              · intro W hW
                (try dsimp only at hW)
                first | (go_simp; done) | (go_simp; with_reducible rfl)
              ((try simp only [Act.put]); (try simp only [List.setIfInBounds_toArray]); (try simp only [List.set_cons_succ]); (try simp only [List.set_cons_zero]))
              refine takeL (i := 3) rfl (by kernel_rfl) (by kernel_rfl) (by kernel_rfl) (fun _ _ _ _ h => h) hHeld ?_ (Or.inl ⟨by rfl, ?_⟩) ?_
              rotate_left
              · intro W hW
                (try dsimp only at hW)
                first | (go_simp; done) | (go_simp; with_reducible rfl)
              ((try simp only [Act.put]); (try simp only [List.setIfInBounds_toArray]); (try simp only [List.set_cons_succ]); (try simp only [List.set_cons_zero]))
              refine takeL (i := 4) rfl (by kernel_rfl) (by kernel_rfl) (by kernel_rfl) (fun _ _ _ _ h => h) hHeld ?_ (Or.inl ⟨by rfl, ?_⟩) ?_
              rotate_left
              · intro W hW
                (try dsimp only at hW)
                first | (go_simp; done) | (go_simp; with_reducible rfl)
              ((try simp only [Act.put]); (try simp only [List.setIfInBounds_toArray]); (try simp only [List.set_cons_succ]); (try simp only [List.set_cons_zero]))
              refine takeL (i := 6) rfl (by kernel_rfl) (by kernel_rfl) (by kernel_rfl) (fun _ _ _ _ h => h) hHeld ?_ (Or.inl ⟨by rfl, ?_⟩) ?_
              rotate_left
              · intro W hW
                (try dsimp only at hW)
                first | (go_simp; done) | (go_simp; with_reducible rfl)
              ((try simp only [Act.put]); (try simp only [List.setIfInBounds_toArray]); (try simp only [List.set_cons_succ]); (try simp only [List.set_cons_zero]))
              refine takeL (i := 7) rfl (by kernel_rfl) (by kernel_rfl) (by kernel_rfl) (fun _ _ _ _ h => h) hHeld ?_ (Or.inl ⟨by rfl, ?_⟩) ?_
              rotate_left
              · intro W hW
                (try dsimp only at hW)
                first | (go_simp; done) | (go_simp; with_reducible rfl)
              ((try simp only [Act.put]); (try simp only [List.setIfInBounds_toArray]); (try simp only [List.set_cons_succ]); (try simp only [List.set_cons_zero]))
              refine callL (i := 5) rfl (by kernel_rfl) (fun K hK => ?_)
              rw [if_pos (by rfl)]
              go_simp
              refine (next_c (H.re (.step (.there (.there (.here _ _))) (.same _)))).mono ?_
              rintro e w' ⟨rfl, rfl⟩
              clear hHeld
              refine hK.out _ _ ?_ (fun hHeld => ?_)
              · exact ⟨H.cell (o := 0) (.there (.here _ _)) rfl, H.cell (o := 1) (.there (.here _ _)) rfl⟩
              clear hK K
              ((try simp only [Act.put]); (try simp only [List.setIfInBounds_toArray]); (try simp only [List.set_cons_succ]); (try simp only [List.set_cons_zero]))
              refine takeL (i := 8) rfl (by kernel_rfl) (by kernel_rfl) (by kernel_rfl) (fun _ _ _ _ h => h) hHeld ?_ (Or.inl ⟨by rfl, ?_⟩) ?_
              rotate_left
              · intro W hW
                (try dsimp only at hW)
                first | (go_simp; done) | (go_simp; with_reducible rfl)
              ((try simp only [Act.put]); (try simp only [List.setIfInBounds_toArray]); (try simp only [List.set_cons_succ]); (try simp only [List.set_cons_zero]))
              refine takeL (i := 9) rfl (by kernel_rfl) (by kernel_rfl) (by kernel_rfl) (fun _ _ _ _ h => h) hHeld ?_ (Or.inl ⟨by rfl, ?_⟩) ?_
              rotate_left
              · intro W hW
                (try dsimp only at hW)
                first | (go_simp; done) | (go_simp; with_reducible rfl)
              ((try simp only [Act.put]); (try simp only [List.setIfInBounds_toArray]); (try simp only [List.set_cons_succ]); (try simp only [List.set_cons_zero]))
              refine takeL (i := 10) rfl (by kernel_rfl) (by kernel_rfl) (by kernel_rfl) (fun _ _ _ _ h => h) hHeld ?_ (Or.inl ⟨by rfl, ?_⟩) ?_
              rotate_left
              · intro W hW
                (try dsimp only at hW)
                first | (go_simp; done) | (go_simp; with_reducible rfl)
              ((try simp only [Act.put]); (try simp only [List.setIfInBounds_toArray]); (try simp only [List.set_cons_succ]); (try simp only [List.set_cons_zero]))
              refine takeL (i := 11) rfl (by kernel_rfl) (by kernel_rfl) (by kernel_rfl) (fun _ _ _ _ h => h) hHeld ?_ (Or.inl ⟨by rfl, ?_⟩) ?_
              rotate_left
              · intro W hW
                (try dsimp only at hW)
                first | (go_simp; done) | (go_simp; with_reducible rfl)
              ((try simp only [Act.put]); (try simp only [List.setIfInBounds_toArray]); (try simp only [List.set_cons_succ]); (try simp only [List.set_cons_zero]))
              refine takeL (i := 13) rfl (by kernel_rfl) (by kernel_rfl) (by kernel_rfl) (fun _ _ _ _ h => h) hHeld ?_ (Or.inl ⟨by rfl, ?_⟩) ?_
              rotate_left
              · intro W hW
                (try dsimp only at hW)
                first | (go_simp; done) | (go_simp; with_reducible rfl)
              ((try simp only [Act.put]); (try simp only [List.setIfInBounds_toArray]); (try simp only [List.set_cons_succ]); (try simp only [List.set_cons_zero]))
              refine takeL (i := 14) rfl (by kernel_rfl) (by kernel_rfl) (by kernel_rfl) (fun _ _ _ _ h => h) hHeld ?_ (Or.inl ⟨by rfl, ?_⟩) ?_
              rotate_left
              · intro W hW
                (try dsimp only at hW)
                first | (go_simp; done) | (go_simp; with_reducible rfl)
              ((try simp only [Act.put]); (try simp only [List.setIfInBounds_toArray]); (try simp only [List.set_cons_succ]); (try simp only [List.set_cons_zero]))
              refine callL (i := 12) rfl (by kernel_rfl) (fun K hK => ?_)
              rw [if_pos (by rfl)]
              go_simp
              refine (mask_c (H.re (.step (.there (.there (.here _ _))) (.same _)))).mono ?_
              rintro e w' ⟨rfl, rfl⟩
              clear hHeld
              refine hK.out _ _ ?_ (fun hHeld => ?_)
              · exact ⟨H.cell (o := 0) (.there (.here _ _)) rfl, H.cell (o := 1) (.there (.here _ _)) rfl⟩
              clear hK K
              ((try simp only [Act.put]); (try simp only [List.setIfInBounds_toArray]); (try simp only [List.set_cons_succ]); (try simp only [List.set_cons_zero]))
              refine takeL (i := 15) rfl (by kernel_rfl) (by kernel_rfl) (by kernel_rfl) (fun _ _ _ _ h => h) hHeld ?_ (Or.inl ⟨by rfl, ?_⟩) ?_
              rotate_left
              · intro W hW
                (try dsimp only at hW)
                first | (go_simp; done) | (go_simp; with_reducible rfl)
              ((try simp only [Act.put]); (try simp only [List.setIfInBounds_toArray]); (try simp only [List.set_cons_succ]); (try simp only [List.set_cons_zero]))
              refine takeL (i := 16) rfl (by kernel_rfl) (by kernel_rfl) (by kernel_rfl) (fun _ _ _ _ h => h) hHeld ?_ (Or.inl ⟨by rfl, ?_⟩) ?_
              rotate_left
              · intro W hW
                (try dsimp only at hW)
                first | (go_simp; done) | (go_simp; with_reducible rfl)
              ((try simp only [Act.put]); (try simp only [List.setIfInBounds_toArray]); (try simp only [List.set_cons_succ]); (try simp only [List.set_cons_zero]))
              refine takeL (i := 17) rfl (by kernel_rfl) (by kernel_rfl) (by kernel_rfl) (fun _ _ _ _ h => h) hHeld ?_ (Or.inl ⟨by rfl, ?_⟩) ?_
              rotate_left
              · intro W hW
                (try dsimp only at hW)
                first | (go_simp; done) | (go_simp; with_reducible rfl)
              ((try simp only [Act.put]); (try simp only [List.setIfInBounds_toArray]); (try simp only [List.set_cons_succ]); (try simp only [List.set_cons_zero]))
              refine callL (i := 18) rfl (by kernel_rfl) (fun K hK => ?_)
              rw [if_pos (by rfl)]
              have z0 := H.cell (o := 0) (.here _ _) rfl
              have z1 := H.cell (o := 1) (.here _ _) rfl
              have fz := fun o => H.free (.here _ _) o
              go_simp
              have H9 := (H.setCell 0 (.int .u64 N)).setCell 1 (.int .u64 (U x))
              generalize (w8.setCell ⟨b7, 0, none⟩ (.int .u64 N)).setCell ⟨b7, 1, none⟩ (.int .u64 (U x)) = w9 at *
              clear H z0 z1 fz hHeld
              have H := H9
              clear H9
              refine hK.out _ _ ?_ (fun hHeld => ?_)
              · exact ⟨H.cell (o := 0) (.there (.here _ _)) rfl, H.cell (o := 1) (.there (.here _ _)) rfl⟩
              clear hK K
              ((try simp only [Act.put]); (try simp only [List.setIfInBounds_toArray]); (try simp only [List.set_cons_succ]); (try simp only [List.set_cons_zero]))
              refine takeL (i := 19) rfl (by kernel_rfl) (by kernel_rfl) (by kernel_rfl) (fun _ _ _ _ h => h) hHeld ?_ (Or.inl ⟨by rfl, ?_⟩) ?_
              rotate_left
              · intro W hW
                (try dsimp only at hW)
                first | (go_simp; done) | (go_simp; with_reducible rfl)
              ((try simp only [Act.put]); (try simp only [List.setIfInBounds_toArray]); (try simp only [List.set_cons_succ]); (try simp only [List.set_cons_zero]))
              refine wpAnyH_done (by kernel_rfl) ?_ _
              have h8 := Lib.hid H
              clear H hHeld
              go_wp2_with fail
              have k0 := h8.out.cell (o := 0) (.here _ _) rfl
              have k1 := h8.out.cell (o := 1) (.here _ _) rfl
              refine bodyPost_ret (v := .tuple #[.pointer (some ⟨p, 0, none⟩), .agg #[.int .u64 N, .int .u64 (U x)], .bool true]) ?_ rfl ?_
              · simp [results, Tryd.results22, go_sem, k0, k1]
              · exact ⟨p, N, x, rfl, hg'.out, h8.out.re (.step (.there (.there (.here _ _))) (.drop (.drop (.drop (.same _)))))⟩
end Go.Proofs.YtkoajbmomipjkaaDoor
