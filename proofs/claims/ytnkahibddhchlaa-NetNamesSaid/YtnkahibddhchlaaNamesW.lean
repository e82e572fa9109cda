/- The walk of NetNames. Printed by gennames.py. -/
import Derived.Test.YtnkahibddhchlaaNils
import Derived.Test.YtnkahibddhchlaaAlive
import Derived.Test.YtnkahibddhchlaaPlayL
import Derived.Laws.IdiomStrings
import Derived.Deep.CutBlock
import Derived.Deep.CutRange
namespace Go.Proofs.Ytnkahibddhchlaa
open Go.RowKit Go.Shelf
set_option linter.unusedVariables false

def B0 : NSt := ⟨3, 2, t0, fun _ => []⟩
def B1 : NSt := (B0.send 0 1 [97]).2
def B2 : NSt := (B1.send 0 1 [98]).2
def B3 : NSt := (B2.send 0 1 [99]).2
def B4 : NSt := B3.flip 0 1 1 0
def B5 : NSt := { B4.gone 0 1 1 with t := { B4.t with delivered := B4.t.delivered + 1 } }
def B6 : NSt := B5.double 0 1 0
def B7 : NSt := B6.clear 1
def BJ : Nat → NSt
  | 0 => B0 | 1 => B1 | 2 => B2 | _ => B3
theorem eql_tf (w : World) : (binOp .eql 50 (.agg #[.int .i64 3, .int .i64 1, .int .i64 1, .int .i64 2, .int .i64 1, .int .i64 1]) (.agg #[.int .i64 3, .int .i64 1, .int .i64 1, .int .i64 2, .int .i64 1, .int .i64 1])).run Try.prog w = .ok (.bool true) w := by kernel_rfl
theorem eql_tf0 (w : World) : (binOp .eql 50 (.agg #[.int .i64 0, .int .i64 0, .int .i64 0, .int .i64 0, .int .i64 0, .int .i64 0]) (.agg #[.int .i64 0, .int .i64 0, .int .i64 0, .int .i64 0, .int .i64 0, .int .i64 0])).run Try.prog w = .ok (.bool true) w := by kernel_rfl
theorem guard_tf (op : BinOp) (x y : Operand) (xs ys : Array Value) (w : World) : (eqGuard op 50 x y (.agg xs) (.agg ys)).run Try.prog w = .ok () w := run_eqGuard_agg w op _ x y xs ys (by kernel_rfl)
theorem okI_3 : okI 3 := by unfold okI; decide
theorem okI_2 : okI 2 := by unfold okI; decide
theorem okI_8 : okI 8 := by unfold okI; decide
theorem rd_nil {V : World} : RdB V none [] := fun i hi => by cases hi

theorem conv_str {p : Nat} {s : NSt} {L : List Pc} {w : World} (H : NAt p s L w) (S : ByteArray) (l : List Int) (hl : S.data.toList.map (fun b => (b.toNat : Int)) = l) :
    ∃ (c : Nat) (w' : World) (o : Obj), (convert 9 29 (.string S)).run Try.prog w = .ok (.slice (some ⟨w.heap.size, 0, none⟩) l.length c) w' ∧ NAt p s (.obj w.heap.size o :: L) w' ∧ ∀ V, SL V (.obj w.heap.size o :: L) → RdB V (some ⟨w.heap.size, 0, none⟩) l := by
  have hn : S.size = l.length := by rw [← hl]; simp
  have h := run_bytes_of_string (P := Try.prog) w 9 29 5 S Try.underlying9 Try.underlying29 Try.underlying5
  rw [hn] at h
  refine ⟨_, _, _, h, (H.drew).allocO _, fun V hV i hi => ⟨w.heap.size, 0, rfl, ?_⟩⟩
  refine blk_cell (show V.heap[w.heap.size]? = some _ from hV.head) (0 + i) _ ?_
  subst hl
  have hi' : i < S.data.size := by simpa using hi
  have hi2 : i < S.size := hi'
  simp [bytesRow, Array.getElem?_append, hi2, List.getD_eq_getElem?_getD]

theorem made_bytes {p : Nat} {s : NSt} {L : List Pc} {w : World} (H : NAt p s L w) (n : Nat) (hn : n ≤ 2000) :
    ∃ (bs : List Int) (w' : World), bs.length = n ∧ (Instr.makeSlice 29 (.int .i64 (n : Int)) (.int .i64 (n : Int))).run Try.prog w = .ok (.slice (some ⟨w.heap.size, 0, none⟩) n n) w' ∧ NAt p s (grP ⟨(some ⟨w.heap.size, 0, none⟩, bs.length, n), bs⟩ :: L) w' := by
  obtain ⟨m, xs, h1, ok, hF⟩ := H
  obtain ⟨w', hr, h2⟩ := h1.made elemB .i64 .i64 n (by omega) (by simp only [maxLen]; omega)
  refine ⟨List.replicate n 0, w', by simp, hr, m, xs, ?_, ok, hF⟩
  rw [made_one _ _ rfl] at h2
  refine SL.perm ?_ (List.perm_middle.symm)
  unfold grP slV
  dsimp only
  rw [List.length_replicate, show bv (List.replicate n 0) = List.replicate n (.int .u8 0) by simp [bv]]
  exact h2
theorem gr_rd {V : World} {R : List Pc} {x : Addr} {c : Nat} {bs : List Int} (h : SL V (grP ⟨(some x, bs.length, c), bs⟩ :: R)) : RdB V (some x) bs := by
  obtain ⟨a, c, e, -, h2, -⟩ := gr_slice h (.here _ _)
  cases e
  exact h2
theorem send_long (s : NSt) (a b : Int) {bs : List Int} (h : bs.length = 1025) : s.send a b bs = (170, s) := by
  unfold NSt.send
  rw [if_neg (fun h' => by have := h'.2; omega)]
theorem send_full {bs : List Int} (h : bs.length = 1024) : (B7.send 2 0 bs).1 = 0 := by
  unfold NSt.send
  rw [if_pos ⟨by decide +kernel, by omega⟩]

set_option maxRecDepth 100000 in
set_option maxHeartbeats 40000000 in
theorem names_c (w : World) : Calls Try.prog 8 #[] w fun e w' => e = .returned (.bool true) ∧ Kp no w w' := by
  have kc := fun (w : World) (C : Array Value) (n c : Nat) => Lib.run_convert_bytes_const (P := Try.prog) w 29 5 C n c Try.underlying29 Try.underlying5
  have hnew := Lib.hid (new_at 3 2 (by omega) (by omega) (by omega) (by omega) (SL.start w))
  go_enter Try.func8, Try.ntmps8
  go_wp2_with fail
  refine hnew.out.mono ?_
  rintro e w1 ⟨p, rfl, NN⟩
  have hN := Lib.hid (show NAt p B0 _ w1 from NN)
  clear hnew NN
  unfold ptrV at *
  have hN0 := Lib.hid (hN.out.alloc [.string { data := #[97] }, .string { data := #[98] }, .string { data := #[99] }] 9)
  clear hN
  go_wp2_with fail
  generalize w1.alloc (.cells [Value.string { data := #[97] }, .string { data := #[98] }, .string { data := #[99] }].toArray 9) = w2 at *
  generalize w1.heap.size = sb at *
  go_loopw [44] (fun i V => ∃ k : Nat, k ≤ 3 ∧ i = .int .i64 k ∧ Hid (NAt p (BJ k) [.blk sb [.string { data := #[97] }, .string { data := #[98] }, .string { data := #[99] }] 9, .old w no] V)) (fun i _ => 3 - (intOf i).toNat)
  case atStart => exact ⟨0, by omega, rfl, hN0⟩
  case round =>
    clear hN0
    obtain ⟨k, hk, rfl, hN⟩ := hrel
    obtain rfl | rfl | rfl | rfl : k = 0 ∨ k = 1 ∨ k = 2 ∨ k = 3 := by omega
    · have c := hN.out.tail.cell (b := sb) (o := 0) (.here _ _) rfl
      obtain ⟨cc, w9, oo, hrun, N, hrd⟩ := conv_str hN.out { data := #[97] } [97] (by decide +kernel)
      have hc := Lib.hid (send_c N (by constructor <;> decide +kernel) okI_0 okI_1 (some ⟨wr.heap.size, 0, none⟩) cc [97] (fun V h => ⟨hrd V h, fun h => by cases h⟩))
      rw [show (NSt.send (BJ 0) 0 1 [97]).1 = 0 by decide +kernel, show (NSt.send (BJ 0) 0 1 [97]).2 = BJ 1 from rfl] at hc
      clear hN N hrd
      unfold ptrV at *
      dsimp only [List.length_cons, List.length_nil, Nat.zero_add] at hrun hc
      go_wp2_with fail
      refine hc.out.mono ?_
      rintro e w3 ⟨rfl, N⟩
      have hN := Lib.hid (N.re (.drop (.same _)))
      clear hc N c
      go_wp2_with fail
      go_roundw
      case rel => exact ⟨1, by omega, rfl, hN⟩
      case measure => (simp [intOf]; try omega)
    · have c := hN.out.tail.cell (b := sb) (o := 1) (.here _ _) rfl
      obtain ⟨cc, w9, oo, hrun, N, hrd⟩ := conv_str hN.out { data := #[98] } [98] (by decide +kernel)
      have hc := Lib.hid (send_c N (by constructor <;> decide +kernel) okI_0 okI_1 (some ⟨wr.heap.size, 0, none⟩) cc [98] (fun V h => ⟨hrd V h, fun h => by cases h⟩))
      rw [show (NSt.send (BJ 1) 0 1 [98]).1 = 0 by decide +kernel, show (NSt.send (BJ 1) 0 1 [98]).2 = BJ 2 from rfl] at hc
      clear hN N hrd
      unfold ptrV at *
      dsimp only [List.length_cons, List.length_nil, Nat.zero_add] at hrun hc
      go_wp2_with fail
      refine hc.out.mono ?_
      rintro e w3 ⟨rfl, N⟩
      have hN := Lib.hid (N.re (.drop (.same _)))
      clear hc N c
      go_wp2_with fail
      go_roundw
      case rel => exact ⟨2, by omega, rfl, hN⟩
      case measure => (simp [intOf]; try omega)
    · have c := hN.out.tail.cell (b := sb) (o := 2) (.here _ _) rfl
      obtain ⟨cc, w9, oo, hrun, N, hrd⟩ := conv_str hN.out { data := #[99] } [99] (by decide +kernel)
      have hc := Lib.hid (send_c N (by constructor <;> decide +kernel) okI_0 okI_1 (some ⟨wr.heap.size, 0, none⟩) cc [99] (fun V h => ⟨hrd V h, fun h => by cases h⟩))
      rw [show (NSt.send (BJ 2) 0 1 [99]).1 = 0 by decide +kernel, show (NSt.send (BJ 2) 0 1 [99]).2 = BJ 3 from rfl] at hc
      clear hN N hrd
      unfold ptrV at *
      dsimp only [List.length_cons, List.length_nil, Nat.zero_add] at hrun hc
      go_wp2_with fail
      refine hc.out.mono ?_
      rintro e w3 ⟨rfl, N⟩
      have hN := Lib.hid (N.re (.drop (.same _)))
      clear hc N c
      go_wp2_with fail
      go_roundw
      case rel => exact ⟨3, by omega, rfl, hN⟩
      case measure => (simp [intOf]; try omega)
    · have hN : Hid (NAt p B3 [.old w no] wr) := Lib.hid (hN.out.re (.drop (.same _)))
      have hc := Lib.hid (flip_yes hN.out (by constructor <;> decide +kernel) okI_0 okI_1 (j := 1) (bit := 0) (by decide +kernel) (by decide +kernel))
      clear hN
      unfold ptrV at *
      go_wp2_with fail
      refine hc.out.mono ?_
      rintro e v4 ⟨rfl, N⟩
      have hN := Lib.hid (show NAt p B4 _ _ from N)
      clear hc N
      have hc := Lib.hid (deliver_yes hN.out (by constructor <;> decide +kernel) okI_0 okI_1 (j := 1) (by decide +kernel))
      clear hN
      unfold ptrV at *
      go_wp2_with fail
      refine hc.out.mono ?_
      rintro e v5 ⟨v, rfl, N⟩
      have hN := Lib.hid (show NAt p B5 _ _ from N.re (.drop (.same _)))
      clear hc N
      have hc := Lib.hid (double_yes hN.out (by constructor <;> decide +kernel) okI_0 okI_1 (j := 0) (by decide +kernel))
      clear hN
      unfold ptrV at *
      go_wp2_with fail
      refine hc.out.mono ?_
      rintro e v6 ⟨rfl, N⟩
      have hN := Lib.hid (show NAt p B6 _ _ from N)
      clear hc N
      have hc := Lib.hid (ways_c hN.out)
      rw [show heldK B6.n B6.F = [(0, 1)] by decide +kernel, show ([(0, 1)] : List Ky).length = 1 from rfl] at hc
      clear hN
      unfold ptrV at *
      go_wp2_with fail
      refine hc.out.mono ?_
      rintro e v7 ⟨wa, wcap, rfl, N⟩
      have hN := Lib.hid (N)
      clear hc N
      have hc := Lib.hid (len_c hN.out 0 1)
      rw [show ((B6.F (0, 1)).length : Nat) = 2 by decide +kernel] at hc
      clear hN
      unfold ptrV at *
      go_wp2_with fail
      refine hc.out.mono ?_
      rintro e v8 ⟨rfl, N⟩
      have hN := Lib.hid (N)
      clear hc N
      have hc := Lib.hid (send_c hN.out (by constructor <;> decide +kernel) okI_1 okI_1 none 0 [] (fun V h => ⟨rd_nil, fun _ => rfl⟩))
      rw [show (B6.send 1 1 []).1 = 170 by decide +kernel, show (B6.send 1 1 []).2 = B6 by rfl] at hc
      clear hN
      unfold ptrV at *
      go_wp2_with fail
      refine hc.out.mono ?_
      rintro e v9 ⟨rfl, N⟩
      have hN := Lib.hid (N)
      clear hc N
      have hc := Lib.hid (deliver_no hN.out okI_1 okI_0 (j := 0) (by decide +kernel))
      have hN' := hN
      clear hN
      unfold ptrV at *
      go_wp2_with fail
      refine hc.out.mono ?_
      rintro e v10 ⟨rfl, rfl⟩
      have hN := Lib.hid (hN'.out)
      clear hc
      clear hN'
      have hc := Lib.hid (flip_bad hN.out okI_0 okI_1 okI_8 (j := 0) (by decide +kernel) (by decide +kernel))
      have hN' := hN
      clear hN
      unfold ptrV at *
      go_wp2_with fail
      refine hc.out.mono ?_
      rintro e v11 ⟨rfl, rfl⟩
      have hN := Lib.hid (hN'.out)
      clear hc
      clear hN'
      have hc := Lib.hid (send_c hN.out (by constructor <;> decide +kernel) okI_0 okI_3 none 0 [] (fun V h => ⟨rd_nil, fun _ => rfl⟩))
      rw [show (B6.send 0 3 []).1 = 170 by decide +kernel, show (B6.send 0 3 []).2 = B6 by rfl] at hc
      clear hN
      unfold ptrV at *
      go_wp2_with fail
      refine hc.out.mono ?_
      rintro e v12 ⟨rfl, N⟩
      have hN := Lib.hid (N)
      clear hc N
      obtain ⟨bs, w9, hbs, hrun, N⟩ := made_bytes hN.out 1025 (by omega)
      rw [show ((1025 : Nat) : Int) = 1025 from rfl] at hrun
      have hc := Lib.hid (send_c N (by constructor <;> decide +kernel) okI_0 okI_1 (some ⟨v12.heap.size, 0, none⟩) 1025 bs (fun V h => ⟨gr_rd h, fun h => by cases h⟩))
      rw [send_long _ _ _ hbs, hbs] at hc
      clear hN N
      unfold ptrV at *
      go_wp2_with fail
      refine hc.out.mono ?_
      rintro e v13 ⟨rfl, N⟩
      have hN := Lib.hid (show NAt p B6 _ _ from N.re (.drop (.same _)))
      clear hc N hrun hbs
      have hc := Lib.hid (drop_no hN.out okI_0 okI_1 (j := 2) (by decide +kernel))
      have hN' := hN
      clear hN
      unfold ptrV at *
      go_wp2_with fail
      refine hc.out.mono ?_
      rintro e v14 ⟨rfl, rfl⟩
      have hN := Lib.hid (hN'.out)
      clear hc
      clear hN'
      have hc := Lib.hid (clear_no hN.out (dst := 3) (by decide))
      clear hN
      unfold ptrV at *
      go_wp2_with fail
      refine hc.out.mono ?_
      rintro e v15 ⟨rfl, N⟩
      have hN := Lib.hid (N)
      clear hc N
      have hc := Lib.hid (clear_c hN.out (by constructor <;> decide +kernel) (dst := 1) (by decide +kernel))
      rw [show cntTo (heldK B6.n B6.F) B6.F 1 (heldK B6.n B6.F).length = 2 by decide +kernel] at hc
      clear hN
      unfold ptrV at *
      go_wp2_with fail
      refine hc.out.mono ?_
      rintro e v16 ⟨rfl, N⟩
      have hN := Lib.hid (show NAt p B7 _ _ from N)
      clear hc N
      go_upto_region 20 with (fail)
      have htr := Lib.hid (traffic_c hN.out)
      rw [show tfV B7.t = [.int .i64 3, .int .i64 1, .int .i64 1, .int .i64 2, .int .i64 1, .int .i64 1] by rfl] at htr
      have hown : OwnK _ 0 42 2 (.slice wa 1 wcap) 1 (kyC [(0, 1)]) := hN.out.tail.ownOf (.here _ _)
      obtain ⟨g, rfl, q0, q1⟩ : ∃ g, wa = some ⟨g, 0, none⟩ ∧ v16.cell? ⟨g, 0, none⟩ = some (.int .i64 0) ∧ v16.cell? ⟨g, 1, none⟩ = some (.int .i64 1) := by
        rcases hown.form with ⟨_, e, _⟩ | ⟨g, cap', e, _, _, _, _, _, hc, _⟩
        · omega
        · cases e
          exact ⟨g, rfl, by rw [hc 0 (by omega)]; rfl, by rw [hc 1 (by omega)]; rfl⟩
      have hep := eql_pair
      have hgp := guard_pair
      have het := eql_tf
      have hgt := guard_tf
      clear hN hown
      unfold ptrV at *
      go_cut [19] from 89 to 148 (fun t V => t = .bool true ∧ Hid (NAt p B7 [.own 42 2 (.slice (some ⟨g, 0, none⟩) 1 wcap) 1 (kyC [(0, 1)]), .old w no] V))
      case first =>
        go_wp2_with fail
        refine htr.out.mono ?_
        rintro e w20 ⟨rfl, N⟩
        have hN := Lib.hid N
        clear htr N q0 q1
        go_wp2_with fail
        go_meet
        case rel => exact ⟨rfl, hN⟩
      case rest =>
      obtain ⟨rfl, hN⟩ := hcut
      clear htr q0 q1 hep hgp het hgt
      have hH := Lib.hid hN.out
      clear hN
      have hc := Lib.hid (new_no 0 1 (by omega))
      go_wp2_with fail
      refine (hc.out _).mono ?_
      rintro e w30 ⟨rfl, rfl⟩
      clear hc
      have hc := Lib.hid (new_no 65 1 (by omega))
      go_wp2_with fail
      refine (hc.out _).mono ?_
      rintro e w31 ⟨rfl, rfl⟩
      clear hc
      have hc := Lib.hid (new_no 1 0 (by omega))
      go_wp2_with fail
      refine (hc.out _).mono ?_
      rintro e w32 ⟨rfl, rfl⟩
      clear hc
      have hc := Lib.hid (new_no 64 257 (by omega))
      go_wp2_with fail
      refine (hc.out _).mono ?_
      rintro e w33 ⟨rfl, rfl⟩
      clear hc
      obtain ⟨bs, w9, hbs, hrun, N⟩ := made_bytes hH.out 1024 (by omega)
      rw [show ((1024 : Nat) : Int) = 1024 from rfl] at hrun
      have hc := Lib.hid (send_c N (by constructor <;> decide +kernel) okI_2 okI_0 (some _) 1024 bs (fun V h => ⟨gr_rd h, fun h => by cases h⟩))
      rw [send_full hbs, hbs] at hc
      clear hH N
      unfold ptrV at *
      go_wp2_with fail
      refine hc.out.mono ?_
      rintro e w40 ⟨rfl, N⟩
      have H := N.tail.tail.tail.alloc [.int .i64 0, .int .i64 0, .map none, .int .i64 0, .int .i64 0, .int .i64 0, .int .i64 0, .int .i64 0, .int .i64 0] 67
      have hH := Lib.hid (show SL _ (zB w40.heap.size :: _) from H)
      clear hc N hrun hbs H
      have hc := Lib.hid (deliver_nil (w40.alloc (.cells [.int .i64 0, .int .i64 0, .map none, .int .i64 0, .int .i64 0, .int .i64 0, .int .i64 0, .int .i64 0, .int .i64 0].toArray 67)) 0 1 0)
      go_wp2_with fail
      generalize w40.alloc (.cells [Value.int .i64 0, .int .i64 0, .map none, .int .i64 0, .int .i64 0, .int .i64 0, .int .i64 0, .int .i64 0, .int .i64 0].toArray 67) = w41 at *
      generalize w40.heap.size = zb at *
      refine hc.out.mono ?_
      rintro e w42 ⟨rfl, rfl⟩
      clear hc
      have hc := Lib.hid (clear_zero hH.out 0)
      clear hH
      unfold ptrV at *
      go_wp2_with fail
      refine hc.out.mono ?_
      rintro e w43 ⟨rfl, H⟩
      have hH := Lib.hid (H)
      clear hc H
      have hc := Lib.hid (peek_zero hH.out 0 1 0)
      unfold ptrV at *
      go_wp2_with fail
      refine hc.out.mono ?_
      rintro e w44 ⟨rfl, rfl⟩
      clear hc
      go_upto_region 31 with (fail)
      have hsn := Lib.hid (fun V => send_nil V 0 1)
      have hdr := Lib.hid (fun V (h : SL V (zB zb :: [.old w no])) => drop_zero h 0 1 0)
      have hdn := Lib.hid (fun V => double_nil V 0 1 0)
      have hfl := Lib.hid (fun V (h : SL V (zB zb :: [.old w no])) => flip_zero h 0 1 0 0)
      have hll := Lib.hid (fun V (h : SL V (zB zb :: [.old w no])) => len_nil h 0 1)
      have hal := Lib.hid (fun V (h : SL V (zB zb :: [.old w no])) => all_zero h)
      have hwy := Lib.hid (fun V (h : SL V (zB zb :: [.old w no])) => ways_nil h)
      have htr : Hid (∀ V, SL V (zB zb :: [.old w no]) → Calls Try.prog 20 #[.pointer none] V fun e w' => e = .returned (.agg #[.int .i64 0, .int .i64 0, .int .i64 0, .int .i64 0, .int .i64 0, .int .i64 0]) ∧ SL w' (zB zb :: [.old w no])) := Lib.hid (fun V h => traffic_nil h)
      have hcp := Lib.hid (fun V (h : SL V (zB zb :: [.old w no])) => copy_zero h)
      have het := eql_tf0
      have hgt := guard_tf
      unfold ptrV at *
      go_cut [37] from 181 to 253 (fun t V => t = .bool true ∧ Hid (SL V (zB zb :: [.old w no])))
      case first =>
        go_wp2_with fail
        refine (hsn.out _).mono ?_
        rintro e w50 ⟨rfl, rfl⟩
        go_wp2_with fail
        refine (hdr.out _ hH.out).mono ?_
        rintro e w50 ⟨rfl, rfl⟩
        go_wp2_with fail
        refine (hdn.out _).mono ?_
        rintro e w50 ⟨rfl, rfl⟩
        go_wp2_with fail
        refine (hfl.out _ hH.out).mono ?_
        rintro e w50 ⟨rfl, rfl⟩
        go_wp2_with fail
        refine (hll.out _ hH.out).mono ?_
        rintro e w51 ⟨rfl, H⟩
        have hH := Lib.hid H
        clear H
        go_wp2_with fail
        refine (hal.out _ hH.out).mono ?_
        rintro e w52 ⟨rfl, H⟩
        have hH := Lib.hid H
        clear H
        go_wp2_with fail
        refine (hwy.out _ hH.out).mono ?_
        rintro e w53 ⟨rfl, H⟩
        have hH := Lib.hid H
        clear H
        go_wp2_with fail
        refine (htr.out _ hH.out).mono ?_
        rintro e w54 ⟨rfl, H⟩
        have hH := Lib.hid H
        clear H
        go_wp2_with fail
        refine (hcp.out _ hH.out).mono ?_
        rintro e w55 ⟨rfl, H⟩
        have hH := Lib.hid H
        clear H
        go_wp2_with fail
        go_meet
        case rel => exact ⟨rfl, hH⟩
      case rest =>
      obtain ⟨rfl, hH⟩ := hcut
      have hc := Lib.hid (alive_c hH.out)
      clear hH hsn hdr hdn hfl hll hal hwy htr hcp het hgt
      go_wp2_with fail
      refine hc.out.mono ?_
      rintro e w60 ⟨rfl, H⟩
      have hfin := Lib.hid (H.kp (.there (.here _ _)))
      clear H
      go_wp2_with fail
      go_ret
      exact ⟨rfl, hfin.out⟩
theorem walkNames (w : World) : Calls Try.prog 8 #[] w fun e w' => e = .returned (.bool true) ∧ Below w.heap.size w w' :=
  (names_c w).mono fun _ _ ⟨h1, h2⟩ => ⟨h1, h2.self_below⟩
end Go.Proofs.Ytnkahibddhchlaa
