/- The walk of the law CrcBursts: whatever bytes, place and bits come in, it returns true and writes nothing that was there. -/
import Derived.Test.YtnnopakfnenjfaaAlive
import Derived.Test.YtnnopakfnenjfaaSealLaw
namespace Go.Proofs.Ytnnopakfnenjfaa
open Go.RowKit
set_option linter.unusedVariables false

theorem mask_bit (mk : BitVec 32) (i : Nat) : U mk / (2 ^ i : Int) % 2 = if mk.getLsbD i then 1 else 0 := by
  have h : U mk / (2 ^ i : Int) = ((mk.toNat / 2 ^ i : Nat) : Int) := by unfold U; push_cast; rfl
  rw [h, BitVec.getLsbD, Nat.testBit_eq_decide_div_mod_eq]
  by_cases hb : mk.toNat / 2 ^ i % 2 = 1
  · rw [if_pos (by simpa using hb)]; omega
  · rw [if_neg (by simpa using hb)]; omega

theorem flip8 (x : BitVec 8) (r : Nat) : bits .xor .u8 (U x) (2 ^ r % 256) = U (x ^^^ 1#8 <<< r) := by
  have : (2 : Int) ^ r % 256 = U (1#8 <<< r) := by
    have h : ((1#8) <<< r).toNat = 2 ^ r % 256 := by
      rw [BitVec.toNat_shiftLeft, Nat.shiftLeft_eq]; simp
    unfold U; rw [h, Int.natCast_emod, Int.natCast_pow]; rfl
  rw [this, xor8]

def flips (n p : Nat) (mk : BitVec 32) (j : Nat) : Bool := decide (p + j < 8 * (n + 4)) && mk.getLsbD j

set_option maxRecDepth 100000 in
set_option maxHeartbeats 1000000 in
theorem bursts_c (a : Option Addr) (n cap : Nat) (bs : List (BitVec 8)) (A : Nat) (mk : BitVec 32) (w : World) (hl : bs.length = n) (hm : ¬ 5000 < (n : Int)) (hA : A ≤ 65535) (hcap : n ≤ cap) (hcm : cap ≤ 9223372036854775807) (hn : a = none → cap = 0) (hc : RdB w a bs) :
    Calls Try.prog 4 #[.slice a n cap, .int .u16 A, .int .u32 (U mk)] w fun e w' => e = .returned (.bool true) ∧ Kp no w w' := by
  have hl' := Lib.hid hl
  have hc' := Lib.hid hc
  clear hc hl
  have m0 := U_nn mk
  have m1 := U_lt32 mk
  go_enter Try.func4, Try.ntmps4
  go_wp2_with fail
  refine (alive_c w).mono ?_
  rintro e w1 ⟨rfl, hk1⟩
  have hk1' := Lib.hid hk1
  clear hk1
  go_wp2_with fail
  refine (seal_c a n cap bs w1 hl'.out (by rw [hl'.out]; omega) hn (Rd.no hc'.out hk1'.out)).mono ?_
  rintro e w2 ⟨v2, rfl, ho2, hk2, -⟩
  obtain ⟨g2, c2, rfl, hg2, hg2', hc2, hcm2⟩ := ho2.cons (n := n + 4) (by rw [bv_length, seal_len, hl'.out]) (by omega)
  have ho2' := Lib.hid ho2
  have hk2' := Lib.hid hk2
  clear ho2 hk2
  have hne : (((n : Int) + 4) != (n : Int) + 4) = false := by simp
  go_wp2_with fail
  obtain ⟨p, hp⟩ : ∃ p : Nat, (A : Int) % (8 * ((n : Int) + 4)) = p := ⟨A % (8 * (n + 4)), by push_cast; rfl⟩
  have hp8 : p < 8 * (n + 4) := by have := Int.emod_lt_of_pos (A : Int) (show 0 < 8 * ((n : Int) + 4) by omega); omega
  rw [hp]
  clear hp
  go_loopw [10, 11, 12] (fun t ins i wr => ∃ k : Nat, k ≤ 32 ∧ i = .int .i64 k ∧ t = .bool (turnedB (flips n p mk) k) ∧ ins = .bool (insideB n p (flips n p mk) k) ∧
      Hid (Own wr w1.heap.size 5 (.slice (some ⟨g2, 0, none⟩) (n + 4) c2) (bv (tw p (flips n p mk) (sealed bs) k))) ∧ Hid (Kp (fun k => k = g2) w2 wr)) (fun _ _ i _ => 32 - (intOf i).toNat)
  case atStart => exact ⟨0, by omega, rfl, rfl, rfl, ho2', Lib.hid (Kp.refl _ _)⟩
  case round =>
    obtain ⟨k, hk, rfl, rfl, rfl, hown, hkp⟩ := hrel
    by_cases hlt : k < 32
    · by_cases hin : p + k < 8 * (n + 4)
      · have hin' : ¬ 8 * ((n : Int) + 4) ≤ (p : Int) + (k : Int) := by omega
        obtain ⟨x, hx⟩ : ∃ x, (tw p (flips n p mk) (sealed bs) k).getD ((p + k) / 8) 0 = x := ⟨_, rfl⟩
        have htl : (tw p (flips n p mk) (sealed bs) k).length = n + 4 := by rw [tw_length, seal_len, hl'.out]
        have hcell : wr.cell? ⟨g2, (p + k) / 8, none⟩ = some (.int .u8 (U x)) := by
          have := hown.out.cellAt (i := (p + k) / 8) (by rw [bv_length]; omega)
          rw [bv_getD _ (by omega), hx] at this
          exact this
        have hfr : wr.frozen? ⟨g2, (p + k) / 8, none⟩ = false := hown.out.frozenAt _
        have hmk : ((U mk / 2 ^ k).tmod 2 == 0) = !mk.getLsbD k := by
          rw [Int.tmod_eq_emod_of_nonneg (Int.ediv_nonneg m0 (Int.pow_nonneg (by omega))), mask_bit]
          cases mk.getLsbD k <;> rfl
        have htl' := Lib.hid htl
        have hx' := Lib.hid hx
        clear htl hx
        cases hb : mk.getLsbD k
        · have hfl : flips n p mk k = false := by simp [flips, hb]
          have e1 : turnedB (flips n p mk) (k + 1) = turnedB (flips n p mk) k := by unfold turnedB; rw [any_succ, hfl, Bool.or_false]
          have e2 : insideB n p (flips n p mk) (k + 1) = insideB n p (flips n p mk) k := by unfold insideB; rw [any_succ, hfl]; simp
          have e3 : tw p (flips n p mk) (sealed bs) (k + 1) = tw p (flips n p mk) (sealed bs) k := by simp [tw, hfl]
          have e' := Lib.hid (And.intro e1 (And.intro e2 e3))
          rw [hb] at hmk
          have hmk' : ((U mk / 2 ^ k).tmod 2 == 0) = true := hmk
          clear e1 e2 e3 hfl hb hmk hcell hfr
          go_wp2_with fail
          go_roundw
          case rel => exact ⟨k + 1, by omega, by go_num, by rw [e'.out.1], by rw [e'.out.2.1], Lib.hid (by rw [e'.out.2.2]; exact hown.out), hkp⟩
          case measure => simp [intOf]; omega
        · have hfl : flips n p mk k = true := by simp [flips, hb, hin]
          have e1 : turnedB (flips n p mk) (k + 1) = true := by unfold turnedB; rw [any_succ, hfl, Bool.or_true]
          have e2 : insideB n p (flips n p mk) (k + 1) = (insideB n p (flips n p mk) k || decide ((p : Int) + k < 8 * n)) := by
            unfold insideB; rw [any_succ, hfl, Bool.true_and]; congr 1; rw [Bool.eq_iff_iff]; simp; omega
          have hst := hown.out.storeB ((p + k) / 8) (by rw [htl'.out]; omega) (x ^^^ 1#8 <<< ((p + k) % 8))
          rw [← flip8] at hst
          have e3 : (tw p (flips n p mk) (sealed bs) k).set ((p + k) / 8) (x ^^^ 1#8 <<< ((p + k) % 8)) = tw p (flips n p mk) (sealed bs) (k + 1) := by simp only [tw, hfl, if_true, hx'.out]
          rw [e3] at hst
          have e' := Lib.hid (And.intro e1 (And.intro e2 hst))
          rw [hb] at hmk
          have hmk' : ((U mk / 2 ^ k).tmod 2 == 0) = false := hmk
          clear e1 e2 e3 hfl hb hmk hst
          cases hi : insideB n p (flips n p mk) k
          · have hi' := Lib.hid hi
            clear hi
            go_wp2_with fail
            go_roundw
            case rel => exact ⟨k + 1, by omega, by go_num, by rw [e'.out.1], by rw [e'.out.2.1, hi'.out, Bool.false_or], Lib.hid e'.out.2.2, Lib.hid (hkp.out.setCell (p := ⟨g2, (p + k) / 8, none⟩) (.inl rfl) _)⟩
            case measure => simp [intOf]; omega
          · have hi' := Lib.hid hi
            clear hi
            go_wp2_with fail
            go_roundw
            case rel => exact ⟨k + 1, by omega, by go_num, by rw [e'.out.1], by rw [e'.out.2.1, hi'.out, Bool.true_or], Lib.hid e'.out.2.2, Lib.hid (hkp.out.setCell (p := ⟨g2, (p + k) / 8, none⟩) (.inl rfl) _)⟩
            case measure => simp [intOf]; omega
      · have hin' : 8 * ((n : Int) + 4) ≤ (p : Int) + (k : Int) := by omega
        have hfl : flips n p mk k = false := by simp [flips, hin]
        have e1 : turnedB (flips n p mk) (k + 1) = turnedB (flips n p mk) k := by unfold turnedB; rw [any_succ, hfl, Bool.or_false]
        have e2 : insideB n p (flips n p mk) (k + 1) = insideB n p (flips n p mk) k := by unfold insideB; rw [any_succ, hfl]; simp
        have e3 : tw p (flips n p mk) (sealed bs) (k + 1) = tw p (flips n p mk) (sealed bs) k := by simp [tw, hfl]
        have e' := Lib.hid (And.intro e1 (And.intro e2 e3))
        clear e1 e2 e3 hfl hin
        go_wp2_with fail
        go_roundw
        case rel => exact ⟨k + 1, by omega, by go_num, by rw [e'.out.1], by rw [e'.out.2.1], Lib.hid (by rw [e'.out.2.2]; exact hown.out), hkp⟩
        case measure => simp [intOf]; omega
    · obtain rfl : k = 32 := by omega
      have htl : (tw p (flips n p mk) (sealed bs) 32).length = n + 4 := by rw [tw_length, seal_len, hl'.out]
      have hfl : ∀ i, flips n p mk i = true → p + i < 8 * (bs.length + 4) := fun i hi => by
        rw [hl'.out]; simp only [flips, Bool.and_eq_true, decide_eq_true_iff] at hi; exact hi.1
      have hopen := burst_open bs p (flips n p mk) hfl
      have hsum := burst_sum bs p (flips n p mk) hfl
      rw [hl'.out] at hsum
      have hfin : (U (sumOf ((tw p (flips n p mk) (sealed bs) 32).take n)) != U (sumOf bs)) = insideB n p (flips n p mk) 32 := by
        cases hi : insideB n p (flips n p mk) 32
        · rw [hsum.2 hi]; simp
        · rw [bne_iff_ne]
          intro h
          have := hsum.1 (U_inj h)
          rw [hi] at this; cases this
      have rt : RdB wr (some ⟨g2, 0, none⟩) ((tw p (flips n p mk) (sealed bs) 32).take n) := RdB.take hown.out.bytes.2 n (by rw [htl]; omega)
      have kw : Kp no w wr := (hk1'.out.trans hk2'.out).then hkp.out (fun _ _ h => h) (fun i hi h => by have := hk1'.out.size; omega)
      have fin' := Lib.hid hfin
      have rt' := Lib.hid rt
      have kw' := Lib.hid kw
      have htl' := Lib.hid htl
      cases ht : turnedB (flips n p mk) 32
      · have ho0 := hopen.2 ht
        have hts := tw_none p (flips n p mk) (sealed bs) 32 ht
        have oo := open_c (some ⟨g2, 0, none⟩) (n + 4) c2 _ wr htl (by rw [htl]; omega) hc2 hcm2 hown.out.bytes.2
        rw [ho0, hts, opened_sealed] at oo
        clear hfin rt kw htl hfl hopen hsum hts ho0 ht
        go_wp2_with fail
        refine oo.mono ?_
        clear oo
        rintro e w4 ⟨v4, rfl, ho4, hk4⟩
        obtain ⟨a4, c4, rfl⟩ : ∃ a c, v4 = .slice a n c := by
          rcases ho4.form with ⟨rfl, h⟩ | ⟨g, c, rfl, -⟩
          · have : n = 0 := by rw [← hl'.out, ← bv_length, h]; rfl
            exact ⟨none, 0, by rw [this]⟩
          · rw [bv_length, hl'.out]; exact ⟨_, _, rfl⟩
        have t1 := run_str (P := Try.prog) Try.underlying22 Try.underlying5 Try.underlying9 hl'.out ho4.bytes.2 (n := n) (c := c4) (t := 22) (s := 9)
        have t2 := run_str (P := Try.prog) Try.underlying22 Try.underlying5 Try.underlying9 hl'.out (Rd.no hc'.out (kw'.out.trans hk4)) (n := n) (c := cap) (t := 22) (s := 9)
        have ho4' := Lib.hid ho4
        have hk4' := Lib.hid hk4
        clear ho4 hk4
        go_wp2_with fail
        refine (sum_num _ (some ⟨g2, 0, none⟩) n c2 _ _ (by rw [List.length_take, htl'.out]; omega) (by omega) (Rd.no rt'.out hk4'.out) rfl).mono ?_
        rintro e w' ⟨rfl, rfl⟩
        go_wp2_with fail
        refine (sum_num bs a n cap _ _ hl'.out (by omega) (Rd.no hc'.out (kw'.out.trans hk4'.out)) rfl).mono ?_
        rintro e w' ⟨rfl, rfl⟩
        have hfin := fin'.out
        go_wp2_with fail
        go_ret
        exact ⟨rfl, kw'.out.trans hk4'.out⟩
      · have ho0 : openE (tw p (flips n p mk) (sealed bs) 32) = 40 := by
          rcases openE_or (tw p (flips n p mk) (sealed bs) 32) with h | h
          · have := hopen.1 h; rw [ht] at this; cases this
          · exact h
        have oo := open_c (some ⟨g2, 0, none⟩) (n + 4) c2 _ wr htl (by rw [htl]; omega) hc2 hcm2 hown.out.bytes.2
        rw [ho0] at oo
        clear hfin rt kw htl hfl hopen hsum ho0 ht
        go_wp2_with fail
        refine oo.mono ?_
        clear oo
        rintro e w4 ⟨v4, rfl, ho4, hk4⟩
        have hk4' := Lib.hid hk4
        clear ho4 hk4
        go_wp2_with fail
        refine (sum_num _ (some ⟨g2, 0, none⟩) n c2 _ _ (by rw [List.length_take, htl'.out]; omega) (by omega) (Rd.no rt'.out hk4'.out) rfl).mono ?_
        rintro e w' ⟨rfl, rfl⟩
        go_wp2_with fail
        refine (sum_num bs a n cap _ _ hl'.out (by omega) (Rd.no hc'.out (kw'.out.trans hk4'.out)) rfl).mono ?_
        rintro e w' ⟨rfl, rfl⟩
        have hfin := fin'.out
        go_wp2_with fail
        go_ret
        exact ⟨rfl, kw'.out.trans hk4'.out⟩

theorem wf_u16 {z : Int} (h : (Lit.int .u16 z).wf = true) : 0 ≤ z ∧ z ≤ 65535 := by
  simp [Lit.wf, IntKind.min, IntKind.max, IntKind.signed, IntKind.bits] at h
  omega
theorem wf_u32 {z : Int} (h : (Lit.int .u32 z).wf = true) : 0 ≤ z ∧ z ≤ 4294967295 := by
  simp [Lit.wf, IntKind.min, IntKind.max, IntKind.signed, IntKind.bits] at h
  omega

set_option maxRecDepth 100000 in
theorem bursts_long (a : Option Addr) (len cap : Nat) (a1 a2 : Int) (w : World) (h5 : 5000 < (len : Int)) :
    Calls Try.prog 4 #[.slice a len cap, .int .u16 a1, .int .u32 a2] w fun e w' => e = .returned (.bool true) ∧ Kp no w w' := by
  go_enter Try.func4, Try.ntmps4
  go_wp2_with fail
  refine (alive_c w).mono ?_
  rintro e w1 ⟨rfl, hk1⟩
  go_wp2_with fail
  go_ret
  exact ⟨rfl, hk1⟩

theorem bursts_w (a : Option Addr) (len cap : Nat) (z : List Int) (a1 a2 : Int) (w : World) (h : IsRow .u8 w a len cap z) (w1 : (Lit.int .u16 a1).wf = true) (w2 : (Lit.int .u32 a2).wf = true) :
    Calls Try.prog 4 #[.slice a len cap, .int .u16 a1, .int .u32 a2] w fun e w' => e = .returned (.bool true) ∧ Below w.heap.size w w' := by
  obtain ⟨c, hc⟩ := h.bytes
  obtain ⟨h1, h2, h3, _⟩ := h.len
  by_cases h5 : 5000 < (len : Int)
  · exact (bursts_long a len cap a1 a2 w h5).mono fun e w' hh => ⟨hh.1, hh.2.self_below⟩
  · have b1 := wf_u16 w1
    have b2 := wf_u32 w2
    obtain ⟨A, rfl⟩ := Int.eq_ofNat_of_zero_le b1.1
    rw [← U_of 32 a2 b2.1 (by omega)]
    refine (bursts_c a len cap ((List.range len).map c) A _ w (by simp) h5 (by omega) h1 (by simpa [maxLen] using h2) ?_ (rdB_of hc)).mono fun e w' hh => ⟨hh.1, hh.2.self_below⟩
    rintro rfl
    rcases h with ⟨_, _, rfl, _⟩ | ⟨x, hx, _⟩
    · rfl
    · cases hx

end Go.Proofs.Ytnnopakfnenjfaa
