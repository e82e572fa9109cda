/- The walk of AlarmPlays. -/
import Derived.Test.YtcjmkpphohkofaaDoC
namespace Go.Proofs.Ytcjmkpphohkofaa
open Go.RowKit Go.Shelf
set_option linter.unusedVariables false

section
variable {R : Int} {p y : Nat} {s : Ck} {L : List Pc} {w : World}
theorem do_c (H : Bth R p s y s L w) (h0 : 0 ≤ R) (hR : R ≤ 999999000) (x : OpI) (hx : OpOk x) :
    Calls Try.prog 23 #[ptrV p, ptrV y, .agg (opV x).toArray] w fun e w' => ∃ q s', e = .returned (.tuple #[ptrV q, .bool true]) ∧ Bth (R + 120) q s' y s' L w' := by
  by_cases k0 : x.kind = 0
  · exact do_set H h0 hR x hx k0
  by_cases k1 : x.kind = 1
  · exact do_drop H h0 hR x hx k1
  by_cases k2 : x.kind = 2
  · exact do_calm H h0 hR x hx k2
  by_cases k3 : x.kind = 3
  · exact do_below H h0 hR x hx k3
  by_cases k4 : x.kind = 4
  · exact do_ticks H h0 hR x hx k4
  by_cases k5 : x.kind = 5
  · exact do_told H h0 hR x hx k5
  by_cases k6 : x.kind = 6
  · exact do_keys H h0 hR x hx k6
  by_cases k7 : x.kind = 7
  · exact do_next H h0 hR x hx k7
  by_cases k8 : x.kind = 8
  · exact do_copy H h0 hR x hx k8
  by_cases k9 : x.kind = 9
  · exact do_many H h0 hR x hx k9
  exact do_none H h0 hR x hx ⟨k0, k1, k2, k3, k4, k5, k6, k7, k8, k9⟩
theorem Bth.of (H : CAt R p s L w) : ∃ M, SL w (M ++ L) ∧ ∀ y s2 V, RF R y s2 (M ++ L) V → Bth R p s y s2 L V := by
  obtain ⟨a, h, ok⟩ := H
  refine ⟨ckP p a s, h, fun y s2 V h2 => ?_⟩
  obtain ⟨now, sl, ol, h3, ok2⟩ := h2
  exact ⟨a, now, sl, ol, h3.perm (List.perm_append_comm_assoc _ _ _), ok, ok2⟩
end

set_option maxRecDepth 100000 in
set_option maxHeartbeats 16000000 in
theorem aplays_c (fi lo : Int) (x : Option Addr) (xl xc : Nat) (f : Nat → OpI) (w : World) (hf : RdOps w x xl f) (hxl : xl ≤ 9223372036854775807) (hxc : xl ≤ xc) :
    Calls Try.prog 6 #[.int .i64 fi, .int .i64 lo, .slice x xl xc] w fun e w' => e = .returned (.bool true) ∧ Kp no w w' := by
  have hk0 := Lib.hid (Kp.refl no w)
  by_cases hbig : 200 < xl
  · clear hf
    go_enter Try.func6, Try.ntmps6
    go_wp2_with fail
    go_ret
    exact ⟨rfl, hk0.out⟩
  have hxl2 : xl ≤ 200 := by omega
  by_cases hbad : fi < 1 ∨ lo < fi ∨ 65536 < lo
  · have h1 := Lib.hid (new_no fi lo hbad w)
    have h2 := Lib.hid (rnew_no fi lo hbad w)
    clear hf hbad
    go_enter Try.func6, Try.ntmps6
    go_wp2_with fail
    refine h1.out.mono ?_
    rintro e w1 ⟨rfl, rfl⟩
    clear h1
    go_wp2_with fail
    refine h2.out.mono ?_
    rintro e w1 ⟨rfl, rfl⟩
    clear h2
    go_wp2_with fail
    go_ret
    exact ⟨rfl, hk0.out⟩
  have hg : (1 ≤ fi ∧ fi ≤ lo) ∧ lo ≤ 65536 := by omega
  have h1 := Lib.hid (new_c fi lo hg.1 hg.2 (SL.start w))
  have hrn := Lib.hid fun L V (h : SL V L) => rnew_c fi lo hg.1 hg.2 h
  have hf' := Lib.hid hf
  clear hf hbad hg hbig hxl hk0
  go_enter Try.func6, Try.ntmps6
  go_wp2_with fail
  refine h1.out.mono ?_
  rintro e w1 ⟨p, rfl, H1⟩
  obtain ⟨M, HM, hup⟩ := Bth.of H1
  have h2 := Lib.hid (hrn.out _ _ HM)
  have hup' := Lib.hid hup
  clear h1 hrn H1 HM hup
  unfold ptrV at *
  go_wp2_with fail
  refine h2.out.mono ?_
  rintro e w2 ⟨y, rfl, H2⟩
  have hB : Hid (∃ s, Bth (120 * (0 : Nat)) p s y s [.old w no] w2) := Lib.hid ⟨_, hup'.out _ _ _ H2⟩
  clear h2 H2 hup'
  unfold ptrV at *
  go_wp2_with fail
  go_loopw [50, 7] (fun i z V => ∃ j p : Nat, j ≤ xl ∧ i = .int .i64 j ∧ z = .pointer (some ⟨p, 0, none⟩) ∧ Hid (∃ s, Bth (120 * (j : Nat)) p s y s [.old w no] V)) (fun i _ _ => xl - (intOf i).toNat)
  case atStart => exact ⟨0, _, by omega, rfl, rfl, hB⟩
  case round =>
    clear hB
    obtain ⟨j, q, hj, rfl, rfl, hR⟩ := hrel
    by_cases hjx : j < xl
    · obtain ⟨s, NN⟩ := hR.out
      obtain ⟨bx, ox, e, hok, c0, c1, c2⟩ := (hf'.out.no (NN.tail.kp (.here _ _))) j hjx
      have hd := Lib.hid (do_c NN (by omega) (by omega) (f j) hok)
      have hup : Hid (∀ q s V, Bth (120 * (j : Int) + 120) q s y s [.old w no] V → Hid (∃ s, Bth (120 * ((j + 1 : Nat) : Int)) q s y s [.old w no] V)) := Lib.hid fun q s V h => Lib.hid ⟨s, h.mono (by omega)⟩
      have hxc1 : j + 1 ≤ xc := by omega
      unfold opV at hd
      generalize f j = o at *
      obtain ⟨kd, ky, nn⟩ := o
      dsimp only at *
      subst e
      clear NN hR hok
      unfold ptrV at *
      go_wp2_with fail
      refine hd.out.mono ?_
      rintro e w3 ⟨q', s', rfl, H3⟩
      have hf2 := hup.out _ _ _ H3
      clear hd H3 c0 c1 c2 hup
      unfold ptrV at *
      go_wp2_with fail
      go_roundw
      case rel => exact ⟨j + 1, _, by omega, by go_num, rfl, hf2⟩
      case measure => (simp [intOf]; try omega)
    · obtain rfl : j = xl := by omega
      obtain ⟨s, NN⟩ := hR.out
      have hk := Lib.hid (NN.sl1 (Int.le_refl _) fun L' h' => keys_c h')
      have hl1 := Lib.hid (fun V L (h : Bth (120 * (j : Int)) q s y s L V) => h.out1 (Int.le_refl _) fun L' h' => next_c h')
      have hl2 := Lib.hid (fun V L (h : Bth (120 * (j : Int)) q s y s L V) => h.out2 (Int.le_refl _) fun L' h' => rnext_c h')
      have hl3 := Lib.hid (fun V L (h : Bth (120 * (j : Int)) q s y s L V) => h.sl2 (Int.le_refl _) fun L' h' => rkeys_c h')
      have hn : s.l.length ≤ 1000000 := by have := NN.ok.len; omega
      obtain ⟨E, hE⟩ : ∃ E : Int, (if s.l = [] then 0 else leastK s.b s.l) = E := ⟨_, rfl⟩
      obtain ⟨b, hb⟩ : ∃ b : Bool, decide (0 < s.l.length) = b := ⟨_, rfl⟩
      rw [hE, hb] at hl1 hl2
      obtain ⟨n, hn'⟩ : ∃ n, s.l.length = n := ⟨_, rfl⟩
      rw [hn'] at hk hl3 hn
      clear hE hb hn' hR NN hf'
      have hEE : (E == E) = true := by simp
      have hbb : (b == b) = true := by simp
      unfold ptrV at *
      go_wp2_with fail
      refine hk.out.mono ?_
      rintro e w3 ⟨a3, d3, rfl, H3⟩
      have hl1' := Lib.hid (hl1.out _ _ H3)
      clear hk hl1 H3
      go_wp2_with fail
      refine hl1'.out.mono ?_
      rintro e w4 ⟨rfl, H4⟩
      have hl2' := Lib.hid (hl2.out _ _ H4)
      clear hl1' hl2 H4
      go_wp2_with fail
      refine hl2'.out.mono ?_
      rintro e w5 ⟨rfl, H5⟩
      have hl3' := Lib.hid (hl3.out _ _ H5)
      clear hl2' hl3 H5
      go_wp2_with fail
      refine hl3'.out.mono ?_
      rintro e w6 ⟨a6, d6, rfl, H6⟩
      have hnu := Lib.hid (H6.numbers hn)
      clear hl3' H6
      go_wp2_with fail
      refine hnu.out.mono ?_
      rintro e w7 ⟨rfl, H7⟩
      have hfin := Lib.hid (H7.tail.kp (.here _ _))
      clear hnu H7
      go_wp2_with fail
      go_ret
      exact ⟨rfl, hfin.out⟩
theorem walkPlays (fi lo : Int) (x : Option Addr) (xl xc : Nat) (f : Nat → OpI) (w : World) (w0 : (Lit.int .i64 fi).wf = true) (w1 : (Lit.int .i64 lo).wf = true) (w2 : RdOps w x xl f ∧ xl ≤ 9223372036854775807 ∧ xl ≤ xc) :
    Calls Try.prog 6 #[.int .i64 fi, .int .i64 lo, .slice x xl xc] w fun r w' => r = .returned (.bool true) ∧ Below w.heap.size w w' :=
  (aplays_c fi lo x xl xc f w w2.1 w2.2.1 w2.2.2).mono fun _ _ ⟨h1, h2⟩ => ⟨h1, h2.self_below⟩
end Go.Proofs.Ytcjmkpphohkofaa
