/- The walk of do: kinds 4 and 9. Printed by gendoc.py. -/
import Derived.Test.YtcjmkpphohkofaaDoB
namespace Go.Proofs.Ytcjmkpphohkofaa
open Go.RowKit Go.Shelf
set_option linter.unusedVariables false

section
variable {R : Int} {p y : Nat} {s : Ck} {L : List Pc} {w : World}
theorem u64k_wrap (z : Int) : u64k (IntKind.u64.wrap z) := by
  unfold u64k IntKind.wrap
  simp [IntKind.bits, IntKind.signed]
  omega
theorem rings_len {s : Ck} (h : CkOk R s) : (ringsK s.l).length ≤ 1000000 := by
  have h1 := rings_le s.l
  have h2 := h.len
  omega
set_option maxRecDepth 100000 in
set_option maxHeartbeats 8000000 in
theorem do_ticks (H : Bth R p s y s L w) (h0 : 0 ≤ R) (hR : R ≤ 999999000) (x : OpI) (hx : OpOk x) (hk : x.kind = 4) :
    Calls Try.prog 23 #[ptrV p, ptrV y, .agg (opV x).toArray] w fun e w' => ∃ q s', e = .returned (.tuple #[ptrV q, .bool true]) ∧ Bth (R + 120) q s' y s' L w' := by
  have hkk := hx.key
  have hnk := hx.n
  have hH : Hid (∃ s', Bth (R + 2 * ((0 : Nat) : Int)) p s' y s' (.blk w.heap.size (opV x) 39 :: L) (w.alloc (.cells (opV x).toArray 39))) := Lib.hid ⟨s, (H.alloc (opV x) 39).mono (by omega)⟩

  have hfin : Hid (∀ V s' (j : Nat), j ≤ 60 → Bth (R + 2 * (j : Int)) p s' y s' (.blk w.heap.size (opV x) 39 :: L) V → Bth (R + 120) p s' y s' L V) := Lib.hid fun V s' j hj h => (h.re (.drop (.same _))).mono (by omega)
  clear H hx hkk
  unfold opV at *
  obtain ⟨kind, ky, nn⟩ := x
  dsimp only at *
  subst hk
  unfold ptrV at *
  go_enter Try.func23, Try.ntmps23
  go_upto_region 1 with (fail)
  generalize w.alloc (.cells [Value.int .i64 4, .int .u64 ky, .int .i64 nn].toArray 39) = w1 at *
  generalize w.heap.size = ob at *
  have c0 : w1.cell? ⟨ob, 0, none⟩ = some (.int .i64 4) := by
    obtain ⟨s', h⟩ := hH.out
    exact h.tail.cell (b := ob) (o := 0) (.here _ _) rfl
  go_wp2_with fail
  clear c0
  go_loopw [8] (fun i V => ∃ j : Nat, j ≤ 60 ∧ i = .int .i64 j ∧ Hid (∃ s', Bth (R + 2 * (j : Int)) p s' y s' (.blk ob [.int .i64 4, .int .u64 ky, .int .i64 nn] 39 :: L) V)) (fun i _ => 60 - (intOf i).toNat)
  case atStart => exact ⟨0, by omega, rfl, hH⟩
  case round =>
    clear hH
    obtain ⟨j, hj, rfl, hR2⟩ := hrel
    obtain ⟨s', HB⟩ := hR2.out
    have c2 := HB.tail.cell (b := ob) (o := 2) (.here _ _) rfl
    by_cases hjn : (j : Int) < nn
    · have hb : decide ((j : Int) < nn) = true := by simpa using hjn
      by_cases hj6 : j < 60
      · have hl1 := Lib.hid (HB.sl1 (show R + 2 * (j : Int) ≤ R + 2 * (j : Int) + 1 by omega) fun L' h' => tick_c h' (by omega))
        have hl2 := Lib.hid (fun V L s1 (h : Bth (R + 2 * (j : Int) + 1) p s1 y s' L V) => h.sl2 (show R + 2 * (j : Int) + 1 ≤ R + 2 * (j : Int) + 1 + 1 by omega) fun L' h' => rtick_c h' (by omega))
        have hle := rings_len HB.ok
        have hup : Hid (∀ V, Bth (R + 2 * (j : Int) + 1 + 1) p (tickS s') y (tickS s') (.blk ob [.int .i64 4, .int .u64 ky, .int .i64 nn] 39 :: L) V → Hid (∃ s', Bth (R + 2 * ((j + 1 : Nat) : Int)) p s' y s' (.blk ob [.int .i64 4, .int .u64 ky, .int .i64 nn] 39 :: L) V)) := Lib.hid fun V h => Lib.hid ⟨_, h.mono (by omega)⟩
        obtain ⟨m, hm⟩ : ∃ m, (ringsK s'.l).length = m := ⟨_, rfl⟩
        rw [hm] at hl1 hl2 hle
        clear hR2 HB hm hfin h0 hR
        unfold ptrV at *
        go_wp2_with fail
        refine hl1.out.mono ?_
        rintro e w2 ⟨a2, d2, rfl, H2⟩
        have hl3 := Lib.hid (hl2.out _ _ _ H2)
        clear H2 hl2 hl1 c2
        go_wp2_with fail
        refine hl3.out.mono ?_
        rintro e w3 ⟨a3, d3, rfl, H3⟩
        have hnu := Lib.hid (H3.numbers hle)
        clear H3 hl3
        go_wp2_with fail
        refine hnu.out.mono ?_
        rintro e w4 ⟨rfl, H4⟩
        have hf2 := hup.out _ H4
        clear H4 hup hnu
        go_wp2_with fail
        go_roundw
        case rel => exact ⟨j + 1, by omega, by go_num, hf2⟩
        case measure => (simp [intOf]; try omega)
      · have hf2 := Lib.hid (hfin.out _ _ _ hj HB)
        clear hR2 HB hfin h0 hR
        go_wp2_with fail
        go_ret2
        first | exact ⟨p, s', rfl, hf2.out⟩ | exact ⟨p, rfl, s', hf2.out⟩
    · have hb : decide ((j : Int) < nn) = false := by simpa using hjn
      have hf2 := Lib.hid (hfin.out _ _ _ hj HB)
      clear hR2 HB hfin h0 hR
      go_wp2_with fail
      go_ret2
      first | exact ⟨p, s', rfl, hf2.out⟩ | exact ⟨p, rfl, s', hf2.out⟩
set_option maxRecDepth 100000 in
set_option maxHeartbeats 8000000 in
theorem do_many (H : Bth R p s y s L w) (h0 : 0 ≤ R) (hR : R ≤ 999999000) (x : OpI) (hx : OpOk x) (hk : x.kind = 9) :
    Calls Try.prog 23 #[ptrV p, ptrV y, .agg (opV x).toArray] w fun e w' => ∃ q s', e = .returned (.tuple #[ptrV q, .bool true]) ∧ Bth (R + 120) q s' y s' L w' := by
  have hkk := hx.key
  have hnk := hx.n
  have hH : Hid (∃ s', Bth (R + 2 * ((0 : Nat) : Int)) p s' y s' (.blk w.heap.size (opV x) 39 :: L) (w.alloc (.cells (opV x).toArray 39))) := Lib.hid ⟨s, (H.alloc (opV x) 39).mono (by omega)⟩

  have hfin : Hid (∀ V s' (j : Nat), j ≤ 60 → Bth (R + 2 * (j : Int)) p s' y s' (.blk w.heap.size (opV x) 39 :: L) V → Bth (R + 120) p s' y s' L V) := Lib.hid fun V s' j hj h => (h.re (.drop (.same _))).mono (by omega)
  clear H hx hkk
  unfold opV at *
  obtain ⟨kind, ky, nn⟩ := x
  dsimp only at *
  subst hk
  unfold ptrV at *
  go_enter Try.func23, Try.ntmps23
  go_upto_region 1 with (fail)
  generalize w.alloc (.cells [Value.int .i64 9, .int .u64 ky, .int .i64 nn].toArray 39) = w1 at *
  generalize w.heap.size = ob at *
  have c0 : w1.cell? ⟨ob, 0, none⟩ = some (.int .i64 9) := by
    obtain ⟨s', h⟩ := hH.out
    exact h.tail.cell (b := ob) (o := 0) (.here _ _) rfl
  go_wp2_with fail
  clear c0
  go_loopw [20] (fun i V => ∃ j : Nat, j ≤ 300 ∧ i = .int .i64 j ∧ Hid (∃ s', Bth (R + 2 * ((0 : Nat) : Int)) p s' y s' (.blk ob [.int .i64 9, .int .u64 ky, .int .i64 nn] 39 :: L) V)) (fun i _ => 300 - (intOf i).toNat)
  case atStart => exact ⟨0, by omega, rfl, hH⟩
  case round =>
    clear hH
    obtain ⟨j, hj, rfl, hR2⟩ := hrel
    obtain ⟨s', HB⟩ := hR2.out
    have c1 := HB.tail.cell (b := ob) (o := 1) (.here _ _) rfl
    have c2 := HB.tail.cell (b := ob) (o := 2) (.here _ _) rfl
    by_cases hjn : (j : Int) < nn
    · have hb : decide ((j : Int) < nn) = true := by simpa using hjn
      by_cases hj6 : j < 300
      · have hl1 := Lib.hid (fun k (hk : u64k k) => HB.out1 (Int.le_refl _) fun L' h' => set_c h' (by omega) hk)
        have hl2 := Lib.hid (fun k (hk : u64k k) V L s1 (h : Bth (R + 2 * ((0 : Nat) : Int)) p s1 y s' L V) => h.out2 (Int.le_refl _) fun L' h' => rset_c h' (by omega) (by omega) hk)
        have hup : Hid (∀ V k, Bth (R + 2 * ((0 : Nat) : Int)) p (setS s' k) y (setS s' k) (.blk ob [.int .i64 9, .int .u64 ky, .int .i64 nn] 39 :: L) V → Hid (∃ s', Bth (R + 2 * ((0 : Nat) : Int)) p s' y s' (.blk ob [.int .i64 9, .int .u64 ky, .int .i64 nn] 39 :: L) V)) := Lib.hid fun V k h => Lib.hid ⟨_, h⟩
        clear hR2 HB hfin h0 hR
        unfold ptrV at *
        go_wp2_with fail
        refine (hl1.out _ (u64k_wrap _)).mono ?_
        rintro e w2 ⟨rfl, H2⟩
        have hl3 := Lib.hid (hl2.out _ (u64k_wrap (ky + (j : Int))) _ _ _ H2)
        clear H2 hl2 hl1 c2 c1
        obtain ⟨k, hk⟩ : ∃ k, IntKind.u64.wrap (ky + (j : Int)) = k := ⟨_, rfl⟩
        rw [hk] at hl3 ⊢
        clear hk
        obtain ⟨E, hE⟩ : ∃ E, setE s' k = E := ⟨_, rfl⟩
        rw [hE] at hl3 ⊢
        clear hE
        have hEE : (E == E) = true := by simp
        have hEE2 : (E != E) = false := by simp
        go_wp2_with fail
        refine hl3.out.mono ?_
        rintro e w3 ⟨rfl, H3⟩
        have hf2 := hup.out _ _ H3
        clear H3 hl3 hup
        go_wp2_with fail
        go_roundw
        case rel => exact ⟨j + 1, by omega, by go_num, hf2⟩
        case measure => (simp [intOf]; try omega)
      · have hf2 := Lib.hid (hfin.out _ _ 0 (by omega) HB)
        clear hR2 HB hfin h0 hR
        go_wp2_with fail
        go_ret2
        first | exact ⟨p, s', rfl, hf2.out⟩ | exact ⟨p, rfl, s', hf2.out⟩
    · have hb : decide ((j : Int) < nn) = false := by simpa using hjn
      have hf2 := Lib.hid (hfin.out _ _ 0 (by omega) HB)
      clear hR2 HB hfin h0 hR
      go_wp2_with fail
      go_ret2
      first | exact ⟨p, s', rfl, hf2.out⟩ | exact ⟨p, rfl, s', hf2.out⟩
end
end Go.Proofs.Ytcjmkpphohkofaa
