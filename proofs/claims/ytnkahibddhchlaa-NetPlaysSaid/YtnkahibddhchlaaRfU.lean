/- The walk of do: Copy. -/
import Derived.Test.YtnkahibddhchlaaRfT
namespace Go.Proofs.Ytnkahibddhchlaa
open Go.RowKit Go.Shelf
set_option linter.unusedVariables false

theorem tok_flp {B : Int} {s : NSt} (h : Tok B s.t) (a b j bit : Int) : Tok (B + 1) (s.flp a b j bit).t := by
  unfold NSt.flp
  split
  · obtain ⟨h1, h2, h3, h4, h5, h6⟩ := h
    constructor <;> dsimp only [NSt.flip] <;> omega
  · exact h.mono (by omega)
theorem tok_drop {B : Int} {s : NSt} (h : Tok B s.t) (a b j : Int) : Tok (B + 1) (s.drop a b j).t := by
  unfold NSt.drop
  split
  · obtain ⟨h1, h2, h3, h4, h5, h6⟩ := h
    constructor <;> dsimp only <;> omega
  · exact h.mono (by omega)
theorem tok_dbl {B : Int} {s : NSt} (h : Tok B s.t) (a b j : Int) : Tok (B + 2) (s.dbl a b j).t := by
  unfold NSt.dbl
  split
  · have h1 : Tok (B + 1) { s.t with doubled := s.t.doubled + 1 } := by
      obtain ⟨h1, h2, h3, h4, h5, h6⟩ := h
      constructor <;> dsimp only <;> omega
    have := h1.come s.room s.F (a, b)
    rw [show B + 2 = B + 1 + 1 by omega]
    exact this
  · exact h.mono (by omega)
section
variable {p y : Nat} {s : NSt} {L : List Pc} {w : World}
set_option maxRecDepth 100000 in
set_option maxHeartbeats 8000000 in
theorem do_copy (H : Bth p s y s L w) (ht : Tok 900000000 s.t) (x : OpI) (hk : x.kind = 9) :
    Calls Try.prog 23 #[ptrV p, ptrV y, .agg (opV x).toArray] w fun e w' => ∃ p', e = .returned (.tuple #[ptrV p', .bool true]) ∧ Bth p' (s.play x) y (s.play x) L w' := by
  have e : s.play x = s := by unfold NSt.play; simp [hk]
  rw [e]
  have H2 := H.alloc (opV x) 46
  have hc0 := H2.tail.cell (b := w.heap.size) (o := 0) (.here _ _) rfl
  obtain ⟨Ny, hNy, HN⟩ := H2
  have hNy' := Lib.hid hNy
  have hcp := Lib.hid (copy_c HN)
  clear H e HN hNy
  unfold opV inV at *
  obtain ⟨kind, fr, dst, at', bit, bb⟩ := x
  dsimp only at *
  subst hk
  unfold ptrV at *
  go_enter Try.func23, Try.ntmps23
  go_upto_region 1 with (fail)
  generalize w.alloc (.cells [Value.int .i64 9, .int .i64 fr, .int .i64 dst, .int .i64 at', .int .i64 bit, .slice bb.g bb.bs.length bb.c].toArray 46) = w1 at *
  generalize w.heap.size = ob at *
  go_wp2_with fail
  refine hcp.out.mono ?_
  rintro e w2 ⟨p', Nc, rfl, hNc, HN⟩
  have hNc' := Lib.hid hNc
  have hw := Lib.hid (ways_c HN)
  clear hcp HN hNc hc0
  unfold ptrV at *
  go_wp2_with fail
  refine hw.out.mono ?_
  rintro e w3 ⟨wa, wcap, rfl, HN⟩
  have hkeys : Hid (∀ k ∈ heldK s.n s.F, okI k.1 ∧ okI k.2) := Lib.hid fun k hk => by
    have hne : s.F k ≠ [] := by
      have := (List.mem_filter.1 hk).2
      intro e; rw [e] at this; simp at this
    have h1 := HN.key hne
    have h2 := HN.sizes.2.1
    unfold okI
    constructor <;> (simp [Lit.wf, IntKind.min, IntKind.max, IntKind.signed, IntKind.bits]; omega)
  have hKl := heldK_len s.n s.F
  have hK4 : s.n * s.n ≤ 64 * 64 := Nat.mul_le_mul HN.sizes.2.1 HN.sizes.2.1
  obtain ⟨K, hK⟩ : ∃ K, heldK s.n s.F = K := ⟨_, rfl⟩
  rw [hK] at HN hkeys hKl ⊢
  obtain ⟨M, hM⟩ : ∃ M, K.length = M := ⟨_, rfl⟩
  have hM' := Lib.hid hM
  rw [hM] at HN hKl ⊢
  have hM4 : M ≤ 4096 := by omega
  have hH := Lib.hid HN
  clear hw HN hK hM hKl hK4
  go_wp2_with fail
  go_loopw [259] (fun i V => ∃ (j : Nat) (s3 : NSt), j ≤ M ∧ i = .int .i64 j ∧ Hid (Tok (900000000 + 10 * (j : Nat)) s3.t ∧ NAt p s3 (.own 42 2 (.slice wa M wcap) M (kyC K) :: (Nc ++ (Ny ++ (.blk ob [.int .i64 9, .int .i64 fr, .int .i64 dst, .int .i64 at', .int .i64 bit, .slice bb.g bb.bs.length bb.c] 46 :: L)))) V)) (fun i _ => M - (intOf i).toNat)
  case atStart => exact ⟨0, s, by omega, rfl, Lib.hid ⟨ht.mono (by omega), hH.out⟩⟩
  case round =>
    clear hH
    obtain ⟨j, s3, hj, rfl, hR⟩ := hrel
    by_cases hjM : j < M
    · have hjK : j < K.length := by rw [hM'.out]; exact hjM
      obtain ⟨g, rfl, e1, e2⟩ := wayK hR.out.2.tail (.here _ _) hM'.out j hjK
      obtain ⟨ok1, ok2⟩ := hkeys.out _ (List.getElem_mem hjK)
      have hN2 := Lib.hid (hR.out.2.alloc [.int .i64 (K[j]'hjK).1, .int .i64 (K[j]'hjK).2] 42)
      have hT := Lib.hid hR.out.1
      generalize (K[j]'hjK) = k at *
      obtain ⟨k1, k2⟩ := k
      dsimp only at *
      clear hR hjK
      go_upto_region 42 with (fail)
      generalize wr.alloc (.cells [Value.int .i64 k1, .int .i64 k2].toArray 42) = w5 at *
      generalize wr.heap.size = kb at *
      clear e1 e2
      have y0 := hN2.out.tail.cell (b := kb) (o := 0) (.here _ _) rfl
      have y1 := hN2.out.tail.cell (b := kb) (o := 1) (.here _ _) rfl
      have hc := Lib.hid (flip_all hN2.out (hT.out.mono (by omega)) ok1 ok2 (okI_nat (z := 0) (by omega) (by omega)) (j := 0))
      have hT1 := Lib.hid (tok_flp hT.out k1 k2 0 0)
      clear hN2 hT
      unfold ptrV at *
      go_wp2_with fail
      refine hc.out.mono ?_
      rintro e w6 ⟨er, rfl, HN⟩
      clear hc y0 y1
      have y0 := HN.tail.cell (b := kb) (o := 0) (.here _ _) rfl
      have y1 := HN.tail.cell (b := kb) (o := 1) (.here _ _) rfl
      have hc := Lib.hid (double_any HN (hT1.out.mono (by omega)) ok1 ok2 (j := 0))
      have hT2 := Lib.hid (tok_dbl hT1.out k1 k2 0)
      clear HN hT1
      unfold ptrV at *
      go_wp2_with fail
      refine hc.out.mono ?_
      rintro e w7 ⟨er, rfl, HN⟩
      clear hc y0 y1
      have y0 := HN.tail.cell (b := kb) (o := 0) (.here _ _) rfl
      have y1 := HN.tail.cell (b := kb) (o := 1) (.here _ _) rfl
      have hc := Lib.hid (drop_any HN (hT2.out.mono (by omega)) ok1 ok2 (j := 0))
      have hT3 := Lib.hid (tok_drop hT2.out k1 k2 0)
      clear HN hT2
      unfold ptrV at *
      go_wp2_with fail
      refine hc.out.mono ?_
      rintro e w8 ⟨er, rfl, HN⟩
      have hrel := Lib.hid (HN.re (.drop (.same _)))
      clear hc y0 y1 HN ok1 ok2
      go_wp2_with fail
      go_roundw
      case rel => exact ⟨j + 1, _, by omega, by go_num, Lib.hid ⟨hT3.out.mono (by omega), hrel.out⟩⟩
      case measure => (simp [intOf]; try omega)
    · obtain rfl : j = M := by omega
      have hf : Hid (Bth p' s y s L wr) := Lib.hid (by
        have h := hR.out.2.tail.tail
        have h2 := hNc'.out.at h
        exact Bth.re ⟨Ny, hNy'.out, h2⟩ (.drop (.same _)))
      clear hR
      go_wp2_with fail
      go_ret2
      exact ⟨p', rfl, hf.out⟩
end
end Go.Proofs.Ytnkahibddhchlaa
