/- The walk of NetFlips. -/
import Derived.Test.YtnkahibddhchlaaFlipL
import Derived.Deep.CutBlock
import Derived.Deep.CutRange
namespace Go.Proofs.Ytnkahibddhchlaa
open Go.RowKit
set_option linter.unusedVariables false

theorem flip_any {p : Nat} {s : NSt} {L : List Pc} {w : World} (H : NAt p s L w) (ht : Tok 1000000000 s.t) {a b j bit : Int} (ha : okI a) (hb : okI b) (hbi : okI bit) (h : s.has a b j = true) :
    Calls Try.prog 12 #[ptrV p, .int .i64 a, .int .i64 b, .int .i64 j, .int .i64 bit] w fun e w' => ∃ (q : Bool) (E : Int) (s' : NSt), e = .returned (.int .i64 E) ∧ (E == 0) = q ∧
      (q = true ↔ 0 ≤ bit ∧ bit / 8 < (s.the a b j).length) ∧ s' = (if q = true then s.flip a b j bit else s) ∧ NAt p s' L w' := by
  by_cases hc : 0 ≤ bit ∧ bit / 8 < (s.the a b j).length
  · refine (flip_yes H ht ha hb h hc).mono ?_
    rintro e w' ⟨rfl, h'⟩
    exact ⟨true, 0, _, rfl, rfl, by simp [hc], rfl, h'⟩
  · refine (flip_bad H ha hb hbi h hc).mono ?_
    rintro e w' ⟨rfl, rfl⟩
    exact ⟨false, 170, s, rfl, rfl, by simp [hc], rfl, H⟩

set_option maxRecDepth 100000 in
set_option maxHeartbeats 8000000 in
theorem flips_c (a : Option Addr) (len cap : Nat) (f : Nat → InB) (z bit : Int) (w : World) (hz : 0 ≤ z ∧ z ≤ 255) (hbit : okI bit) (hf : RdRows w a len f) (hl : len ≤ 9223372036854775807) :
    Calls Try.prog 3 #[.slice a len cap, .int .u8 z, .int .i64 bit] w fun e w' => e = .returned (.bool true) ∧ Kp no w w' := by
  have hal := Lib.hid (alive_c (SL.start w))
  have hnew := Lib.hid (fun V (h : SL V [.old w no]) => new_at 2 20 (by omega) (by omega) (by omega) (by omega) h)
  have hf' := Lib.hid hf
  have hbit' := Lib.hid hbit
  obtain ⟨hz0, hz1⟩ := hz
  clear hf hbit
  go_enter Try.func3, Try.ntmps3
  go_wp2_with fail
  refine hal.out.mono ?_
  rintro e w1 ⟨rfl, H1⟩
  clear hal
  have hk1 := Lib.hid (H1.kp (.here _ _))
  by_cases hbig : 20 < len
  · clear H1
    go_wp2_with fail
    go_ret
    exact ⟨rfl, hk1.out⟩
  by_cases hzero : len = 0
  · subst hzero
    clear H1
    go_wp2_with fail
    go_ret
    exact ⟨rfl, hk1.out⟩
  have hlp : 0 < len := by omega
  have hl20 : len ≤ 20 := by omega
  have hne : ((len : Int) == 0) = false := by simp; omega
  clear hbig hzero hl
  have hn := Lib.hid (hnew.out _ H1)
  clear H1 hnew
  go_wp2_with fail
  refine hn.out.mono ?_
  rintro e w2 ⟨p, rfl, N⟩
  have hN := Lib.hid N
  clear N hn
  unfold ptrV at *
  go_wp2_with fail
  go_loopw [43] (fun i V => ∃ (k : Nat) (t : Tf) (F : Ky → List (List Int)), k ≤ len ∧ i = .int .i64 k ∧ Hid ((∀ j, j < k → (f j).bs.length ≤ 1024) ∧ Tok (2 * k) t ∧ F (0, 1) = rowsK f k ∧ NAt p ⟨2, 20, t, F⟩ [.old w no] V)) (fun i _ => len - (intOf i).toNat)
  case atStart => exact ⟨0, t0, fun _ => [], by omega, rfl, Lib.hid ⟨fun j h => by omega, Tok.zero _ (by omega), rfl, hN.out⟩⟩
  case round =>
    clear hN hk1
    obtain ⟨k, t, F, hk, rfl, hR⟩ := hrel
    by_cases hkl : k < len
    · obtain ⟨b, o, rfl, hc, hin⟩ := (hf'.out.no (hR.out.2.2.2.tail.kp (.here _ _))) k hkl
      unfold inV at hc
      by_cases hb : (f k).bs.length ≤ 1024
      · obtain ⟨e1, e2⟩ := send_two (s := ⟨2, 20, t, F⟩) rfl rfl (by show (F (0, 1)).length < 20; rw [hR.out.2.2.1, rowsK_length]; omega) hb
        have hs := send_c hR.out.2.2.2 (hR.out.2.1.mono (by omega)) okI_0 okI_1 (f k).g (f k).c (f k).bs (fun V h => ⟨(hf'.out.no (h.kp (.here _ _)) k hkl).choose_spec.choose_spec.2.2.rd, hin.nil⟩)
        have ht' : Tok (2 * k + 2) { t with sent := t.sent + 1 } := by
          obtain ⟨h1, h2, h3, h4, h5, h6⟩ := hR.out.2.1
          constructor <;> dsimp only <;> omega
        rw [e1, e2] at hs
        have hs' := Lib.hid hs
        have hrel : Hid (∀ V, NAt p ⟨2, 20, { t with sent := t.sent + 1 }, upd F (0, 1) (F (0, 1) ++ [(f k).bs])⟩ [.old w no] V → Hid ((∀ j, j < k + 1 → (f j).bs.length ≤ 1024) ∧ Tok (2 * (k + 1 : Nat)) { t with sent := t.sent + 1 } ∧ upd F (0, 1) (F (0, 1) ++ [(f k).bs]) (0, 1) = rowsK f (k + 1) ∧ NAt p ⟨2, 20, { t with sent := t.sent + 1 }, upd F (0, 1) (F (0, 1) ++ [(f k).bs])⟩ [.old w no] V)) := Lib.hid fun V h => Lib.hid ⟨fun j hj => by
            by_cases e : j = k
            · subst e; exact hb
            · exact hR.out.1 j (by omega), by have := ht'; rw [show ((2 : Int) * ((k + 1 : Nat) : Int)) = 2 * k + 2 by omega]; exact this, by rw [upd_self, hR.out.2.2.1, rowsK_succ], h⟩
        clear hR e1 e2 ht' hs hin
        generalize (f k).bs.length = n at *
        unfold ptrV at *
        go_wp2_with fail
        refine hs'.out.mono ?_
        rintro e w3 ⟨rfl, N⟩
        have hN := Lib.hid N
        clear N hs' hc
        go_wp2_with fail
        go_roundw
        case rel => exact ⟨k + 1, _, _, by omega, by go_num, hrel.out _ hN.out⟩
        case measure => (simp [intOf]; try omega)
      · have hs := send_c (a := 0) (b := 1) hR.out.2.2.2 (hR.out.2.1.mono (by omega)) okI_0 okI_1 (f k).g (f k).c (f k).bs (fun V h => ⟨(hf'.out.no (h.kp (.here _ _)) k hkl).choose_spec.choose_spec.2.2.rd, hin.nil⟩)
        rw [send_big _ (by omega)] at hs
        have hs' := Lib.hid hs
        have hb' : 1024 < (f k).bs.length := by omega
        have hcN := Lib.hid (fun V (h : NAt p ⟨2, 20, t, F⟩ [.old w no] V) => hf'.out.no (h.tail.kp (.here _ _)) k hkl)
        clear hR hs hb hin
        have hrow : Hid (∀ V, NAt p ⟨2, 20, t, F⟩ [.old w no] V → V.cell? ⟨b, o + k, none⟩ = some (.slice (f k).g (f k).bs.length (f k).c)) := Lib.hid fun V h => by
          obtain ⟨b', o', e, h1, -⟩ := hcN.out V h
          cases e
          exact h1
        clear hcN
        generalize (f k).bs.length = n at *
        unfold ptrV at *
        go_wp2_with fail
        refine hs'.out.mono ?_
        rintro e w3 ⟨rfl, N⟩
        have hc2 := hrow.out _ N
        have hfin := Lib.hid (N.tail.kp (.here _ _))
        clear hs' N hrow hc
        go_wp2_with fail
        go_ret
        exact ⟨ret_b (decide_eq_true (by omega)), hfin.out⟩
    · obtain rfl : k = len := by omega
      obtain ⟨-, hT, hF, N⟩ := hR.out
      obtain ⟨kk, hkk⟩ : ∃ kk : Nat, z % (k : Int) = kk := ⟨(z % (k : Int)).toNat, (Int.toNat_of_nonneg (Int.emod_nonneg z (by omega))).symm⟩
      have hkl2 : kk < k := by have := Int.emod_lt_of_pos z (show (0 : Int) < k by omega); omega
      have hmod : z.tmod (k : Int) = (kk : Int) := by rw [Int.tmod_eq_emod_of_nonneg hz0]; exact hkk
      have hnz : ¬ k = 0 := by omega
      have hlen : ∀ j, j < k → ∃ n, (f j).bs.length = n ∧ n ≤ 1024 := fun j hj => ⟨_, rfl, hR.out.1 j hj⟩
      have hhas : NSt.has ⟨2, 20, t, F⟩ 0 1 (kk : Int) = true := decide_eq_true (by dsimp only; rw [hF, rowsK_length]; omega)
      have hthe : NSt.the ⟨2, 20, t, F⟩ 0 1 (kk : Int) = (f kk).bs := by unfold NSt.the; dsimp only; rw [hF, Int.toNat_natCast]; exact rowsK_at f hkl2
      have hfl := flip_any N (hT.mono (by omega)) okI_0 okI_1 (j := (kk : Int)) hbit'.out hhas
      rw [hthe] at hfl
      have hfl' := Lib.hid hfl
      have hin := Lib.hid (hlen)
      have hold := Lib.hid (N.tail.kp (.here _ _))
      clear hR hfl hlen hhas hthe N hkk
      have hF' := Lib.hid hF
      have hT' := Lib.hid hT
      clear hF hT
      go_wp2_with fail
      unfold ptrV at *
      go_wp2_with fail
      refine hfl'.out.mono ?_
      rintro e w4 ⟨q, E, s', rfl, hE, hq, hs', N⟩
      clear hfl'
      go_upto_region 15 with (fail)
      obtain ⟨b0, o0, rfl, hrow, -⟩ := (hf'.out.no (N.tail.kp (.here _ _))) kk hkl2
      obtain ⟨n, hn, hn1⟩ := hin.out kk hkl2
      unfold inV at hrow
      rw [hn] at hrow hq
      have hq' := Lib.hid hq
      have hs2 := Lib.hid hs'
      have hN := Lib.hid N
      have hn' := Lib.hid hn
      clear hq hs' N hn
      go_cut [86] from 72 to 86 (fun t V => t = .bool false ∧ w4 = V)
      case first =>
        cases q
        · by_cases h0 : 0 ≤ bit
          · have h1 : 8 * (n : Int) ≤ bit := by have := hq'.out; simp at this; omega
            go_wp2_with fail
            go_meet
            case rel => exact ⟨congrArg Value.bool (decide_eq_false (by omega)), rfl⟩
          · go_wp2_with fail
            go_meet
            case rel => exact ⟨rfl, rfl⟩
        · have h0 := (hq'.out.1 rfl).1
          have h1 : bit < 8 * (n : Int) := by have := (hq'.out.1 rfl).2; omega
          go_wp2_with fail
          go_meet
          case rel => exact ⟨rfl, rfl⟩
      case rest =>
        obtain ⟨rfl, rfl⟩ := hcut
        have hB : Hid (∀ i, i < k → s'.has 0 1 (i : Nat) = true ∧ s'.the 0 1 (i : Nat) = (if q = true ∧ i = kk then flipB (f i).bs bit else (f i).bs)) := Lib.hid fun i hi => by
          rw [hs2.out]
          cases q
          · rw [if_neg (by simp), if_neg (by simp)]
            exact rows_plain (s := ⟨2, 20, t, F⟩) hF'.out hi
          · rw [if_pos rfl]
            have := rows_flip (s := ⟨2, 20, t, F⟩) (bit := bit) hF'.out hkl2 hi
            refine ⟨this.1, this.2.trans ?_⟩
            by_cases e : i = kk
            · rw [if_pos e, if_pos ⟨rfl, e⟩]
            · rw [if_neg e, if_neg (fun h => e h.2)]
        clear hrow
        go_wp2_with fail
        go_loopw [89] (fun i V => ∃ j : Nat, j ≤ k ∧ i = .int .i64 j ∧ Hid (NAt p s' [.old w no] V)) (fun i _ => k - (intOf i).toNat)
        case atStart => exact ⟨0, by omega, rfl, hN⟩
        case round =>
          clear hN
          obtain ⟨j, hj, rfl, hN⟩ := hrel
          by_cases hjk : j < k
          · obtain ⟨hh, hth⟩ := hB.out j hjk
            have hpk := Lib.hid (peek_yes hN.out okI_0 okI_1 hh)
            have hth' := Lib.hid hth
            clear hh hth
            generalize s'.the 0 1 (j : Int) = B at *
            unfold ptrV at *
            go_wp2_with fail
            refine hpk.out.mono ?_
            rintro e w5 ⟨v, rfl, N⟩
            clear hpk hN
            obtain ⟨va, vc, hv, hvn, hvr, hvc⟩ := gr_slice N.tail (.here _ _)
            dsimp only at hv hvr
            subst hv
            unfold slV
            dsimp only
            have hlB : B.length = (f j).bs.length := by
              rw [hth'.out]
              split
              · exact flipB_length _ _
              · rfl
            obtain ⟨nj, hnj, hnj1⟩ := hin.out j hjk
            obtain ⟨b1, o1, e1, hrow, hinj⟩ := (hf'.out.no (N.tail.kp (.there (.here _ _)))) j hjk
            cases e1
            unfold inV at hrow
            rw [hnj] at hrow hlB
            rw [hlB]
            have hlB' := Lib.hid hlB
            have hnj' := Lib.hid hnj
            have hN := Lib.hid N
            have hinj' := Lib.hid hinj
            clear N hlB hnj hvn hvr hinj
            have hnn : ((nj : Int) != (nj : Int)) = false := by simp
            go_wp2_with fail
            go_loopw [112] (fun i V => ∃ m : Nat, m ≤ nj ∧ i = .int .i64 m ∧ Hid (NAt p s' [grP ⟨(va, B.length, vc), B⟩, .old w no] V)) (fun i _ => nj - (intOf i).toNat)
            case atStart => exact ⟨0, by omega, rfl, hN⟩
            case round =>
              clear hN hrow
              obtain ⟨m, hm, rfl, hN⟩ := hrel
              by_cases hmn : m < nj
              · obtain ⟨T, hT⟩ : ∃ T : Int, (if q = true ∧ j = kk ∧ m = (bit / 8).toNat then IntKind.u8.wrap (2 ^ (bit % 8).toNat) else 0) = T := ⟨_, rfl⟩
                have hT' := Lib.hid hT
                have hx : Hid (bits .xor .u8 ((f j).bs.getD m 0) T = B.getD m 0) := Lib.hid (by
                  have hby := hinj'.out.by'.getD m
                  rw [hth'.out, ← hT'.out]
                  by_cases h1 : q = true ∧ j = kk
                  · rw [if_pos h1, flipB_at (by rw [hnj'.out]; exact hmn)]
                    by_cases h2 : m = (bit / 8).toNat
                    · rw [if_pos ⟨h1.1, h1.2, h2⟩, if_pos h2]
                      rfl
                    · rw [if_neg (fun h => h2 h.2.2), if_neg h2]
                      exact xor_zero8 hby
                  · rw [if_neg h1, if_neg (fun h => h1 ⟨h.1, h.2.1⟩)]
                    exact xor_zero8 hby)
                clear hT
                go_upto_region 27 with (fail)
                obtain ⟨C, hC⟩ : ∃ C : Bool, decide (q = true ∧ j = kk ∧ m = (bit / 8).toNat) = C := ⟨_, rfl⟩
                have hC' := Lib.hid hC
                clear hC
                go_cut [127] from 115 to 127 (fun t V => t = .bool C ∧ wr = V)
                case first =>
                  by_cases hjj : j = kk
                  · have hjb : ((j : Int) == (kk : Int)) = true := by simp; omega
                    cases q
                    · have hfin := Lib.hid (show C = false from by rw [← hC'.out]; simp)
                      clear hC' hx hT' hjj
                      go_wp2_with fail
                      go_meet
                      case rel => exact ⟨by rw [hfin.out], rfl⟩
                    · obtain ⟨g1, g2⟩ := hq'.out.1 rfl
                      obtain ⟨o, ho⟩ : ∃ o : Nat, bit / 8 = o := ⟨(bit / 8).toNat, by omega⟩
                      have hq1 : bit.tdiv 8 = (o : Int) := by rw [Int.tdiv_eq_ediv_of_nonneg g1]; exact ho
                      have ho2 : o ≤ 1100 := by omega
                      have hfin := Lib.hid (show C = decide ((m : Int) = (o : Int)) from by rw [← hC'.out, ho, Int.toNat_natCast, decide_eq_decide]; exact ⟨fun h => by omega, fun h => ⟨rfl, hjj, by omega⟩⟩)
                      clear hC' hx hT' g2 ho hjj
                      by_cases hmo : m = o
                      · have hmb : ((m : Int) == (o : Int)) = true := by simp; omega
                        have hfin := Lib.hid (show C = true from by rw [hfin.out]; simp [hmo])
                        clear hmo
                        go_wp2_with fail
                        go_meet
                        case rel => exact ⟨by rw [hfin.out], rfl⟩
                      · have hmb : ((m : Int) == (o : Int)) = false := by simp; omega
                        have hfin := Lib.hid (show C = false from by rw [hfin.out]; simp; omega)
                        clear hmo
                        go_wp2_with fail
                        go_meet
                        case rel => exact ⟨by rw [hfin.out], rfl⟩
                  · have hjb : ((j : Int) == (kk : Int)) = false := by simp; omega
                    have hfin := Lib.hid (show C = false from by rw [← hC'.out]; simp [hjj])
                    clear hC' hx hT'
                    go_wp2_with fail
                    go_meet
                    case rel => exact ⟨by rw [hfin.out], rfl⟩
                case rest =>
                obtain ⟨rfl, rfl⟩ := hcut
                go_upto_if 127 with (fail)
                go_cut [17] from 128 to 131 (fun t V => t = .int .u8 T ∧ wr = V)
                case first =>
                  cases C
                  · have hfin := Lib.hid (show T = 0 from by rw [← hT'.out, if_neg (of_decide_eq_false hC'.out)])
                    clear hC' hx hT'
                    go_wp2_with fail
                    go_meet
                    case rel => exact ⟨by rw [hfin.out], rfl⟩
                  · have hcc := of_decide_eq_true hC'.out
                    obtain ⟨g1, g2⟩ := hq'.out.1 hcc.1
                    obtain ⟨r, hr⟩ : ∃ r : Nat, bit % 8 = r := ⟨(bit % 8).toNat, by omega⟩
                    have hq2 : bit.tmod 8 = (r : Int) := by rw [Int.tmod_eq_emod_of_nonneg g1]; exact hr
                    have hr2 : r ≤ 7 := by omega
                    have hfin := Lib.hid (show T = IntKind.u8.wrap (2 ^ r) from by rw [← hT'.out, if_pos hcc, hr, Int.toNat_natCast])
                    clear hC' hx hT' hcc g2 hr
                    go_wp2_with fail
                    go_meet
                    case rel => exact ⟨by rw [hfin.out, IntKind.wrap_u8], rfl⟩
                case rest =>
                  obtain ⟨rfl, rfl⟩ := hcut
                  obtain ⟨b1, o1, e1, hrow, hinj⟩ := (hf'.out.no (hN.out.tail.kp (.there (.here _ _)))) j hjk
                  cases e1
                  unfold inV at hrow
                  rw [hnj'.out] at hrow
                  obtain ⟨gl, ol, hgl, hlc⟩ := hinj.rd m (by rw [hnj'.out]; exact hmn)
                  rw [hgl] at hrow
                  obtain ⟨va2, vc2, hv2, -, hvr, -⟩ := gr_slice hN.out.tail (.here _ _)
                  dsimp only at hv2 hvr
                  cases hv2
                  obtain ⟨gb, ob, hgb, hbc⟩ := hvr m (by rw [hlB'.out]; exact hmn)
                  dsimp only at hlc hbc
                  have hx' := hx.out
                  generalize (f j).bs.getD m 0 = zl at *
                  generalize B.getD m 0 = zb at *
                  have hzz : (zb != zb) = false := by simp
                  clear hinj hvr hx hgl hT'
                  subst hgb
                  go_wp2_with fail
                  go_quiet (fail)
                  have hN2 := Lib.hid (hN.out.drewN nq)
                  clear hN hx' hrow hlc hbc
                  go_wp2_with fail
                  go_roundw
                  case rel => exact ⟨m + 1, by omega, by go_num, hN2⟩
                  case measure => (simp [intOf]; try omega)
              · obtain rfl : m = nj := by omega
                have hN2 := Lib.hid (show NAt p s' [.old w no] wr from hN.out.re (.drop (.same _)))
                clear hN
                go_wp2_with fail
                go_roundw
                case rel => exact ⟨j + 1, by omega, by go_num, hN2⟩
                case measure => (simp [intOf]; try omega)
          · obtain rfl : j = k := by omega
            cases q
            · have hfin := Lib.hid (hN.out.tail.kp (.here _ _))
              clear hN
              go_wp2_with fail
              go_ret
              exact ⟨rfl, hfin.out⟩
            · obtain ⟨hh, hth⟩ := hB.out kk hkl2
              rw [if_pos ⟨rfl, rfl⟩] at hth
              have hs3 := hs2.out
              rw [if_pos rfl] at hs3
              have htok : Tok 1000000000 s'.t := by
                rw [hs3]
                obtain ⟨h1, h2, h3, h4, h5, h6⟩ := hT'.out
                constructor <;> (show 0 ≤ _ ∧ _ ≤ (1000000000 : Int)) <;> dsimp only [NSt.flip] <;> omega
              have hbb := hq'.out.1 rfl
              have hf2 := flip_yes hN.out htok okI_0 okI_1 hh (bit := bit) (by rw [hth, flipB_length, hn'.out]; exact hbb)
              obtain ⟨s2, hse⟩ : ∃ s2, s'.flip 0 1 (kk : Int) bit = s2 := ⟨_, rfl⟩
              have h2 : s2.has 0 1 (kk : Int) = true ∧ s2.the 0 1 (kk : Int) = (f kk).bs := by
                have hby : By (f kk).bs := by
                  obtain ⟨_, _, _, _, h⟩ := hf'.out kk hkl2
                  exact h.by'
                have h3 := flip_the bit hh
                rw [hse, hth, flipB_flipB hby] at h3
                exact h3
              rw [hse] at hf2
              have hpk : ∀ V, NAt p s2 [.old w no] V → _ := fun V hV => peek_yes hV okI_0 okI_1 h2.1
              rw [h2.2] at hpk
              have hpk' := Lib.hid hpk
              have hf3 := Lib.hid hf2
              have hrowL : Hid (∀ V, SL V [.old w no] → ∃ (hn0 : (f kk).g = none → (f kk).bs = []), V.cell? ⟨b0, o0 + kk, none⟩ = some (.slice (f kk).g (f kk).bs.length (f kk).c) ∧ RdB V (f kk).g (f kk).bs) := Lib.hid fun V h => by
                obtain ⟨b1, o1, e1, hrow, hinj⟩ := (hf'.out.no (h.kp (.here _ _))) kk hkl2
                cases e1
                exact ⟨hinj.empty, hrow, hinj.rd⟩
              clear hN hh hth hs3 htok hbb hf2 h2 hpk hse
              unfold ptrV at *
              go_wp2_with fail
              refine hf3.out.mono ?_
              rintro e w6 ⟨rfl, N⟩
              have hpk2 := Lib.hid (hpk'.out _ N)
              clear N hf3 hpk'
              go_wp2_with fail
              refine hpk2.out.mono ?_
              rintro e w7 ⟨v, rfl, N⟩
              have hst := fun m => gr_str (N.drewN m).tail (.here _ _)
              obtain ⟨hn0, hrow, hrd⟩ := hrowL.out _ (N.tail.tail)
              have hst2 := fun m => run_str (f kk).c (show RdB (w7.drewN m) (f kk).g (f kk).bs from hrd.no ((Kp.refl no w7).drewN m)) hn0
              have hfin := Lib.hid (fun m => (N.drewN m).tail.kp (.there (.here _ _)))
              dsimp only at hst
              generalize strOfNums (f kk).bs = str at *
              generalize (f kk).bs.length = len at *
              obtain ⟨va, vn, vc⟩ := v
              unfold slV at *
              dsimp only at *
              have hss : (str.toList == str.toList) = true := by simp
              clear N hrd hn0 hrowL hpk2
              go_wp2_with fail
              go_quiet (fail)
              go_wp2_with fail
              go_ret
              exact ⟨rfl, hfin.out _⟩
end Go.Proofs.Ytnkahibddhchlaa
