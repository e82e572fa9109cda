/- The walks of great, play. -/
import Derived.Test.YtnkahibddhchlaaPlayL
namespace Go.Proofs.Ytnkahibddhchlaa
open Go.RowKit
set_option linter.unusedVariables false

/-- A call in memory. -/
def OpAt (W : World) (b o : Nat) (x : OpI) : Prop := (∀ j (h : j < 6), W.cell? ⟨b, o + j, none⟩ = (opV x)[j]?) ∧ OpOk W x
theorem OpAt.no {w w' : World} {b o : Nat} {x : OpI} (h : OpAt w b o x) (hk : Kp no w w') : OpAt w' b o x := by
  refine ⟨fun j hj => ?_, h.2.no hk⟩
  have := h.1 j hj
  rw [List.getElem?_eq_getElem (by simpa [opV] using hj)] at this ⊢
  exact hk.cell this (fun h => h)
theorem RdOps.at {W : World} {a : Option Addr} {len : Nat} {f : Nat → OpI} (h : RdOps W a len f) {i : Nat} (hi : i < len) : ∃ b o, a = some ⟨b, o, none⟩ ∧ OpAt W b (o + i * 6) (f i) := by
  obtain ⟨b, o, e, h1, h2⟩ := h i hi
  exact ⟨b, o, e, h1, h2⟩
theorem OpAt.cells {W : World} {b o : Nat} {x : OpI} (h : OpAt W b o x) : W.cell? ⟨b, o, none⟩ = some (.int .i64 x.kind) ∧ W.cell? ⟨b, o + 1, none⟩ = some (.int .i64 x.fr) ∧ W.cell? ⟨b, o + 2, none⟩ = some (.int .i64 x.dst) ∧
    W.cell? ⟨b, o + 3, none⟩ = some (.int .i64 x.at') ∧ W.cell? ⟨b, o + 4, none⟩ = some (.int .i64 x.bit) ∧ W.cell? ⟨b, o + 5, none⟩ = some (.slice x.b.g x.b.bs.length x.b.c) :=
  ⟨h.1 0 (by omega), h.1 1 (by omega), h.1 2 (by omega), h.1 3 (by omega), h.1 4 (by omega), h.1 5 (by omega)⟩

def GreatP (n : Nat) (f : Nat → OpI) (w : World) (e : Ending) (w' : World) : Prop := ∃ r : Bool, e = .returned (.bool r) ∧ w = w' ∧ (r = false → n ≤ 300 ∧ ∀ i, i < n → (f i).b.bs.length ≤ 1100)

theorem great_c (a : Option Addr) (n cap : Nat) (f : Nat → OpI) (w : World) (hn : n ≤ 9223372036854775807) (h : RdOps w a n f) :
    Calls Try.prog 17 #[.slice a n cap] w (GreatP n f w) := by
  have h' := Lib.hid h
  clear h
  by_cases h300 : 300 < n
  · have hd : decide ((300 : Int) < (n : Int)) = true := by simp; omega
    clear h300
    go_enter Try.func17, Try.ntmps17
    go_wp2_with fail
    go_ret
    exact ⟨true, rfl, rfl, fun h => by cases h⟩
  · have hd : decide ((300 : Int) < (n : Int)) = false := by simp; omega
    have h2 : n ≤ 300 := by omega
    clear h300
    go_enter Try.func17, Try.ntmps17
    go_wp2_with fail
    go_loop [9] (fun i => ∃ j : Nat, j ≤ n ∧ i = .int .i64 j ∧ Hid (∀ k, k < j → (f k).b.bs.length ≤ 1100)) (fun i => n - (intOf i).toNat)
    case atStart => exact ⟨0, by omega, rfl, Lib.hid (by intro k h; omega)⟩
    case round =>
      obtain ⟨j, hj, rfl, hall⟩ := hrel
      by_cases hjn : j < n
      · obtain ⟨b, o, rfl, hop⟩ := h'.out.at hjn
        obtain ⟨-, -, -, -, -, c5⟩ := hop.cells
        have hnx := Lib.hid (fun (h : (f j).b.bs.length ≤ 1100) => (show ∀ k, k < j + 1 → (f k).b.bs.length ≤ 1100 from fun k hk => by
          by_cases e : k = j
          · subst e; exact h
          · exact hall.out k (by omega)))
        generalize (f j).b.bs.length = m at *
        clear hop hall
        by_cases hm : 1100 < m
        · have hd2 : decide ((1100 : Int) < (m : Int)) = true := by simp; omega
          clear hnx hm
          go_wp2_with fail
          go_ret
          exact ⟨true, rfl, rfl, fun h => by cases h⟩
        · have hfin := Lib.hid (hnx.out (by omega))
          have hd2 : decide ((1100 : Int) < (m : Int)) = false := by simp; omega
          clear hnx hm
          go_wp2_with fail
          go_round
          case rel => exact ⟨j + 1, by omega, by go_num, hfin⟩
          case measure => (simp [intOf]; try omega)
      · obtain rfl : j = n := by omega
        go_wp2_with fail
        go_ret
        exact ⟨false, rfl, rfl, fun _ => ⟨h2, hall.out⟩⟩

section
variable {p : Nat} {s : NSt} {L : List Pc} {w : World}
set_option maxRecDepth 100000 in
set_option maxHeartbeats 8000000 in
theorem play_c (H : NAt p s L w) (ht : Tok 1000000000 s.t) {b o c : Nat} {x : OpI} (hop : ∀ V, SL V L → OpAt V b o x) :
    Calls Try.prog 18 #[ptrV p, .slice (some ⟨b, o, none⟩) 1 c] w fun e w' => (∃ v, e = .returned v) ∧ NAt p (s.play x) L w' := by
  have hN := Lib.hid H
  have hop' := Lib.hid hop
  have ht' := Lib.hid ht
  obtain ⟨hfr, hdst, -, hbit, hin⟩ := (hop w H.tail).2
  have h1 := Lib.hid hfr
  have h2 := Lib.hid hdst
  have h3 := Lib.hid hbit
  have hin' : Hid (∀ V, SL V L → RdB V x.b.g x.b.bs ∧ (x.b.g = none → x.b.c = 0)) := Lib.hid fun V h => ⟨(hop V h).2.b.rd, (hop V h).2.b.nil⟩
  have hone : ((1 : Nat) : Int) = 1 := rfl
  clear H hop ht hfr hdst hbit hin
  unfold ptrV
  go_enter Try.func18, Try.ntmps18
  go_wp2_with fail
  go_loopw [8] (fun i V => ∃ k : Nat, k ≤ 1 ∧ i = .int .i64 k ∧ Hid (NAt p (if k = 0 then s else s.play x) L V)) (fun i _ => 1 - (intOf i).toNat)
  case atStart => exact ⟨0, by omega, rfl, Lib.hid (by rw [if_pos rfl]; exact hN.out)⟩
  case round =>
    clear hN
    obtain ⟨k, hk, rfl, hN⟩ := hrel
    by_cases hk1 : k < 1
    · obtain rfl : k = 0 := by omega
      rw [if_pos rfl] at hN
      obtain ⟨c0, c1, c2, c3, c4, c5⟩ := (hop'.out _ hN.out.tail).cells
      have hN2 := hN.out.alloc [.int .i64 x.kind, .int .i64 x.fr, .int .i64 x.dst, .int .i64 x.at', .int .i64 x.bit, .slice x.b.g x.b.bs.length x.b.c] 46
      have hin2 : Hid (∀ V, SL V (.blk wr.heap.size [.int .i64 x.kind, .int .i64 x.fr, .int .i64 x.dst, .int .i64 x.at', .int .i64 x.bit, .slice x.b.g x.b.bs.length x.b.c] 46 :: L) → RdB V x.b.g x.b.bs ∧ (x.b.g = none → x.b.c = 0)) := Lib.hid fun V h => hin'.out V h.tail
      have hN2 := Lib.hid hN2
      clear hN
      by_cases hk0 : x.kind = 0
      · have hp : Hid (∀ V, NAt p ((s.send x.fr x.dst x.b.bs).2) L V → Hid (NAt p (if 0 + 1 = 0 then s else s.play x) L V)) := Lib.hid fun V h => Lib.hid (by
          rw [if_neg (by omega)]
          unfold NSt.play
          rw [if_pos hk0]
          exact h)
        have hc := Lib.hid (send_c hN2.out ht'.out h1.out h2.out x.b.g x.b.c x.b.bs hin2.out)
        have hke : (x.kind == 0) = true := by simpa using hk0
        clear hN2 hk0
        unfold ptrV at *
        go_wp2_with fail
        refine hc.out.mono ?_
        rintro e w2 ⟨rfl, N⟩
        have hfin := Lib.hid (hp.out _ (N.re (.drop (.same _))))
        clear hc N hp
        go_wp2_with fail
        go_roundw
        case rel => exact ⟨0 + 1, by omega, by go_num, hfin.out⟩
        case measure => (simp [intOf]; try omega)
      have hkn0 : (x.kind == 0) = false := by simpa using hk0
      have hn0 := Lib.hid hk0
      clear hk0
      by_cases hk1 : x.kind = 1
      · have hp : Hid (∀ V, NAt p (s.deliv x.fr x.dst x.at') L V → Hid (NAt p (if 0 + 1 = 0 then s else s.play x) L V)) := Lib.hid fun V h => Lib.hid (by
          rw [if_neg (by omega)]
          unfold NSt.play
          rw [if_neg hn0.out]
          rw [if_pos hk1]
          exact h)
        have hc := Lib.hid (deliver_any hN2.out ht'.out h1.out h2.out (j := x.at'))
        have hke : (x.kind == 1) = true := by simpa using hk1
        clear hN2 hk1
        unfold ptrV at *
        go_wp2_with fail
        refine hc.out.mono ?_
        rintro e w2 ⟨v, er, rfl, N⟩
        have hfin := Lib.hid (hp.out _ (N.re (.drop (.same _))))
        clear hc N hp
        go_wp2_with fail
        go_roundw
        case rel => exact ⟨0 + 1, by omega, by go_num, hfin.out⟩
        case measure => (simp [intOf]; try omega)
      have hkn1 : (x.kind == 1) = false := by simpa using hk1
      have hn1 := Lib.hid hk1
      clear hk1
      by_cases hk2 : x.kind = 2
      · have hp : Hid (∀ V, NAt p (s.drop x.fr x.dst x.at') L V → Hid (NAt p (if 0 + 1 = 0 then s else s.play x) L V)) := Lib.hid fun V h => Lib.hid (by
          rw [if_neg (by omega)]
          unfold NSt.play
          rw [if_neg hn0.out]
          rw [if_neg hn1.out]
          rw [if_pos hk2]
          exact h)
        have hc := Lib.hid (drop_any hN2.out ht'.out h1.out h2.out (j := x.at'))
        have hke : (x.kind == 2) = true := by simpa using hk2
        clear hN2 hk2
        unfold ptrV at *
        go_wp2_with fail
        refine hc.out.mono ?_
        rintro e w2 ⟨er, rfl, N⟩
        have hfin := Lib.hid (hp.out _ (N.re (.drop (.same _))))
        clear hc N hp
        go_wp2_with fail
        go_roundw
        case rel => exact ⟨0 + 1, by omega, by go_num, hfin.out⟩
        case measure => (simp [intOf]; try omega)
      have hkn2 : (x.kind == 2) = false := by simpa using hk2
      have hn2 := Lib.hid hk2
      clear hk2
      by_cases hk3 : x.kind = 3
      · have hp : Hid (∀ V, NAt p (s.dbl x.fr x.dst x.at') L V → Hid (NAt p (if 0 + 1 = 0 then s else s.play x) L V)) := Lib.hid fun V h => Lib.hid (by
          rw [if_neg (by omega)]
          unfold NSt.play
          rw [if_neg hn0.out]
          rw [if_neg hn1.out]
          rw [if_neg hn2.out]
          rw [if_pos hk3]
          exact h)
        have hc := Lib.hid (double_any hN2.out ht'.out h1.out h2.out (j := x.at'))
        have hke : (x.kind == 3) = true := by simpa using hk3
        clear hN2 hk3
        unfold ptrV at *
        go_wp2_with fail
        refine hc.out.mono ?_
        rintro e w2 ⟨er, rfl, N⟩
        have hfin := Lib.hid (hp.out _ (N.re (.drop (.same _))))
        clear hc N hp
        go_wp2_with fail
        go_roundw
        case rel => exact ⟨0 + 1, by omega, by go_num, hfin.out⟩
        case measure => (simp [intOf]; try omega)
      have hkn3 : (x.kind == 3) = false := by simpa using hk3
      have hn3 := Lib.hid hk3
      clear hk3
      by_cases hk4 : x.kind = 4
      · have hp : Hid (∀ V, NAt p (s.flp x.fr x.dst x.at' x.bit) L V → Hid (NAt p (if 0 + 1 = 0 then s else s.play x) L V)) := Lib.hid fun V h => Lib.hid (by
          rw [if_neg (by omega)]
          unfold NSt.play
          rw [if_neg hn0.out]
          rw [if_neg hn1.out]
          rw [if_neg hn2.out]
          rw [if_neg hn3.out]
          rw [if_pos hk4]
          exact h)
        have hc := Lib.hid (flip_all hN2.out ht'.out h1.out h2.out h3.out (j := x.at') (bit := x.bit))
        have hke : (x.kind == 4) = true := by simpa using hk4
        clear hN2 hk4
        unfold ptrV at *
        go_wp2_with fail
        refine hc.out.mono ?_
        rintro e w2 ⟨er, rfl, N⟩
        have hfin := Lib.hid (hp.out _ (N.re (.drop (.same _))))
        clear hc N hp
        go_wp2_with fail
        go_roundw
        case rel => exact ⟨0 + 1, by omega, by go_num, hfin.out⟩
        case measure => (simp [intOf]; try omega)
      have hkn4 : (x.kind == 4) = false := by simpa using hk4
      have hn4 := Lib.hid hk4
      clear hk4
      by_cases hk5 : x.kind = 5
      · have hp : Hid (∀ V, NAt p (s.clr x.dst) L V → Hid (NAt p (if 0 + 1 = 0 then s else s.play x) L V)) := Lib.hid fun V h => Lib.hid (by
          rw [if_neg (by omega)]
          unfold NSt.play
          rw [if_neg hn0.out]
          rw [if_neg hn1.out]
          rw [if_neg hn2.out]
          rw [if_neg hn3.out]
          rw [if_neg hn4.out]
          rw [if_pos hk5]
          exact h)
        have hc := Lib.hid (clear_any hN2.out ht'.out x.dst)
        have hke : (x.kind == 5) = true := by simpa using hk5
        clear hN2 hk5
        unfold ptrV at *
        go_wp2_with fail
        refine hc.out.mono ?_
        rintro e w2 ⟨mm, er, rfl, N⟩
        have hfin := Lib.hid (hp.out _ (N.re (.drop (.same _))))
        clear hc N hp
        go_wp2_with fail
        go_roundw
        case rel => exact ⟨0 + 1, by omega, by go_num, hfin.out⟩
        case measure => (simp [intOf]; try omega)
      have hkn5 : (x.kind == 5) = false := by simpa using hk5
      have hn5 := Lib.hid hk5
      clear hk5
      have hfin : Hid (∀ V, NAt p s L V → Hid (NAt p (if 0 + 1 = 0 then s else s.play x) L V)) := Lib.hid fun V h => Lib.hid (by
        rw [if_neg (by omega)]
        unfold NSt.play
        rw [if_neg hn0.out, if_neg hn1.out, if_neg hn2.out, if_neg hn3.out, if_neg hn4.out, if_neg hn5.out]
        exact h)
      have hfin2 := Lib.hid (hfin.out _ (hN2.out.re (.drop (.same _))))
      clear hN2 hfin
      go_wp2_with fail
      go_roundw
      case rel => exact ⟨0 + 1, by omega, by go_num, hfin2.out⟩
      case measure => (simp [intOf]; try omega)
    · obtain rfl : k = 1 := by omega
      rw [if_neg (by omega)] at hN
      go_wp2_with fail
      refine bodyPost_end (results_none rfl _ _ _) rfl ⟨⟨_, rfl⟩, hN.out⟩
end
end Go.Proofs.Ytnkahibddhchlaa
