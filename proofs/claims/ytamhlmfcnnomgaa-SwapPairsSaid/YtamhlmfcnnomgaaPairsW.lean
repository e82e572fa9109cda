/- The walk of the law SwapPairs. -/
import Derived.Test.YtamhlmfcnnomgaaCostsW
import Derived.Test.YtamhlmfcnnomgaaLawP
import Derived.Test.YtamhlmfcnnomgaaGrid
import Derived.Test.YtamhlmfcnnomgaaOrderApp
import Derived.Deep.CutBlock
import Derived.Deep.CutRange
namespace Go.Proofs.Ytamhlmfcnnomgaa
open Go.RowKit
set_option linter.unusedVariables false

set_option maxRecDepth 100000 in
set_option maxHeartbeats 8000000 in
theorem swapPairs_c (mode p s round : Int) (w : World) (m0 : 0 ≤ mode) (m1 : mode ≤ 255) (p0 : 0 ≤ p) (p1 : p ≤ 255) (s0 : 0 ≤ s) (s1 : s ≤ 65535) (r0 : 0 ≤ round) (r1 : round ≤ 255) :
    Calls Try.prog 6 #[.int .u8 mode, .int .u8 p, .int .u16 s, .int .u8 round] w fun e w' => e = .returned (.bool true) ∧ Kp no w w' := by
  obtain ⟨M, hM⟩ : ∃ M : Nat, 1 + mode % 2 = M := ⟨(1 + mode % 2).toNat, by omega⟩
  obtain ⟨N, hN⟩ : ∃ N : Nat, 1 + p % 64 = N := ⟨(1 + p % 64).toNat, by omega⟩
  obtain ⟨T, hT⟩ : ∃ T : Nat, s % 4097 = T := ⟨(s % 4097).toNat, by omega⟩
  have hm : M = 1 ∨ M = 2 := by omega
  have h1 : 1 ≤ N := by omega
  have h2 : N ≤ 64 := by omega
  have h3 : T ≤ 4096 := by omega
  have hS := fun w => sized_c mode p s w m0 p0 p1 s0 s1 m1
  rw [hM, hN, hT] at hS
  have hS' := Lib.hid hS
  have hR := Lib.hid (fun w => Rounds_ok M N w hm h1 h2)
  have hR7 := rounds_le M N h1 h2
  have hR1 : 1 ≤ roundsOf M N := by unfold roundsOf; split <;> omega
  obtain ⟨r, hr⟩ : ∃ r : Nat, round % ((roundsOf M N : Nat) : Int) = r := ⟨(round % ((roundsOf M N : Nat) : Int)).toNat, by have := Int.emod_nonneg round (show ((roundsOf M N : Nat) : Int) ≠ 0 by omega); omega⟩
  have hrR : r < roundsOf M N := by have := Int.emod_lt_of_pos round (show (0 : Int) < ((roundsOf M N : Nat) : Int) by omega); omega
  have HA := Lib.hid (fun w => all_c M N T w hm h1 h2 h3)
  have HO := Lib.hid (fun (i : Nat) (hi : i < N) w => sends_ok M N T i r w hm h1 h2 h3 hi hrR)
  have HI := Lib.hid (fun (i : Nat) (hi : i < N) w => hears_ok M N T i r w hm h1 h2 h3 hi hrR)
  have hatA := Lib.hid (fun (i : Nat) (hi : i < N) (k : Nat) (hk : k < (mvFrom M N T r i).length) => all_at hrR hi hk)
  have htoA := Lib.hid (fun (i : Nat) (hi : i < N) => mvFrom_to (s := T) (mode := M) (r := r) h1 hrR hi)
  obtain ⟨R, hsp0, hRd⟩ := all_split M N T r hrR
  have hsp := Lib.hid hsp0
  have hRd' := Lib.hid hRd
  have hPl : (allPre M N T r).length ≤ 28672 := by
    have := allPre_len M N T r h1 h2
    have : r * 4096 ≤ 7 * 4096 := Nat.mul_le_mul_right _ (by omega)
    omega
  have hAl : (allOf M N T).length ≤ 28672 := by
    have := allPre_len M N T (roundsOf M N) h1 h2
    have : roundsOf M N * 4096 ≤ 7 * 4096 := Nat.mul_le_mul_right _ (by omega)
    unfold allOf; omega
  have hlt0 : (allPre M N T r).length ≤ (allOf M N T).length := by rw [hsp0, List.length_append]; omega
  obtain ⟨nP, hnP⟩ : ∃ nP, (allPre M N T r).length = nP := ⟨_, rfl⟩
  obtain ⟨nA, hnA⟩ : ∃ nA, (allOf M N T).length = nA := ⟨_, rfl⟩
  rw [hnP] at hPl hlt0
  rw [hnA] at hAl hlt0
  have hnP' := Lib.hid hnP
  have hnA' := Lib.hid hnA
  clear hsp0 hRd hS hnP hnA hM hN hT m0 m1 p0 p1 s0 s1
  generalize hRe : roundsOf M N = Q at *
  have hRz : ((Q : Int) == 0) = false := by simp; omega
  have hRi : (1 : Int) ≤ Q := by omega
  have hRe' := Lib.hid hRe
  clear hRe
  go_enter Try.func6, Try.ntmps6
  go_wp2_with fail
  refine (alive_c _).mono ?_
  rintro e w1 ⟨rfl, k1⟩
  have q1 := Lib.hid k1
  clear k1
  go_wp2_with fail
  refine (hS'.out _).mono ?_
  rintro e w' ⟨rfl, rfl⟩
  go_wp2_with fail
  refine (hR.out _).mono ?_
  rintro e w2 ⟨rfl, k2⟩
  have q2 := Lib.hid (q1.out.trans k2)
  clear k2
  go_wp2_with fail
  refine (HA.out _).mono ?_
  rintro e w3 ⟨va, rfl, oa, k3⟩
  rw [hnA'.out] at oa
  have q3 := Lib.hid (q2.out.trans k3)
  obtain ⟨ca, cpa, rfl, u1, u2, u3, u4, u5⟩ := oa.slice
  have oa' := Lib.hid oa
  clear oa k3 u3 u4 u5 q1 q2
  go_upto_block 0 with fail
  go_cut [17] from 57 to 71 (fun n V => n = .int .i64 nP ∧ w3 = V)
  case first =>
    go_wp2_with fail
    go_loop [17] (fun c => ∃ k : Nat, k ≤ nP ∧ c = .int .i64 k) (fun c => nP - (intOf c).toNat)
    case atStart => exact ⟨0, by omega, rfl⟩
    case round =>
      obtain ⟨k, hk, rfl⟩ := hrel
      by_cases hkn : k < nP
      · have hkA : k < (allOf M N T).length := by rw [hnA'.out]; omega
        obtain ⟨b, o, rfl, z0, z1, z2, z3, z4⟩ := (OwnK.rdM2 oa'.out hnA'.out).cells hkA
        have hrd : ((allOf M N T)[k]'hkA).rd < r := by
          have hkP : k < (allPre M N T r).length := by rw [hnP'.out]; exact hkn
          have e : (allOf M N T)[k]'hkA = (allPre M N T r)[k]'hkP := by
            rw [List.getElem_of_eq hsp.out hkA, List.getElem_append_left hkP]
          rw [e]
          exact allPre_rd M N T r _ (List.getElem_mem hkP)
        generalize (allOf M N T)[k]'hkA = m at *
        clear hkA z1 z2 z3 z4
        go_wp2_with fail
        go_round
        case rel => exact ⟨k + 1, by omega, by go_num⟩
        case measure => (simp [intOf]; try omega)
      · obtain rfl : k = nP := by omega
        have hways : (k = nA ∧ True) ∨ (k < nA ∧ ∃ b o x : Nat, ca = some ⟨b, o, none⟩ ∧ w3.cell? ⟨b, o + k * 5, none⟩ = some (.int .i64 (x : Nat)) ∧ r ≤ x) := by
          by_cases hkA : k < nA
          · have hkA2 : k < (allOf M N T).length := by rw [hnA'.out]; exact hkA
            obtain ⟨b, o, rfl, z0, -⟩ := (OwnK.rdM2 oa'.out hnA'.out).cells hkA2
            refine .inr ⟨hkA, b, o, _, rfl, z0, ?_⟩
            have e : (allOf M N T)[k]'hkA2 ∈ movesOf M N T r ++ R := by
              rw [List.getElem_of_eq hsp.out hkA2, List.getElem_append_right (by rw [hnP'.out]; exact Nat.le_refl _)]
              exact List.getElem_mem _
            rcases List.mem_append.1 e with h | h
            · rw [movesOf_rd M N T r _ h]; exact Nat.le_refl _
            · have := hRd'.out _ h; omega
          · exact .inl ⟨by omega, trivial⟩
        rcases hways with ⟨hkA, -⟩ | ⟨hkA, b, o, x, rfl, z0, hx⟩
        · go_wp2_with fail
          go_meet
          case rel => exact ⟨by first | rfl | rw [hkA], rfl⟩
        · go_wp2_with fail
          go_meet
          case rel => exact ⟨rfl, rfl⟩
  case rest =>
    obtain ⟨rfl, rfl⟩ := hcut
    obtain ⟨ti, ti1, ti2, ti3, ti4⟩ := info_parts (show (Try.prog.info? 24).map (fun i => (i.zero, i.size, i.bytes)) = some (some (.slice none 0 0), 1, 24) by kernel_rfl)
    have hti := Lib.hid (And.intro ti1 (And.intro ti2 (And.intro ti3 (show ti.bytes * N ≤ 281474976710656 by rw [ti4]; omega))))
    clear ti1 ti2 ti3 ti4
    go_wp2_with (at_make; refine wpList_make_full _ rfl _ _ _ rfl w3.heap.size 24 ti (.slice none 0 0) 1 Try.underlying40 hti.out.1 hti.out.2.1 hti.out.2.2.1 .i64 .i64 N N N rfl rfl rfl rfl hti.out.2.2.2 (by simp only [maxLen]; omega) (Nat.le_refl _) ?_; intro w4 hM4 hg4)
    have q4 := Lib.hid (Kp.of_grownK hg4)
    have G0 := Lib.hid (Grid.made (w3.heap.size + 1) 31 5 rfl hM4)
    have hH4 := blk_lt G0.out.head
    obtain ⟨H, hH⟩ : ∃ H, w3.heap.size = H := ⟨_, rfl⟩
    rw [hH] at G0 hH4 ⊢
    have hH' := Lib.hid hH
    clear hM4 hg4 hH
    go_wp2_with fail
    go_loopw [17, 19] (fun n i V => ∃ (k : Nat) (vs : List Value), k ≤ N ∧ i = .int .i64 k ∧ n = .int .i64 ((nP + (pre M N T r k).length : Nat) : Int) ∧ Grid V (H + 1) H 24 31 5 vs (heardX N (pre M N T r k)) ∧ Kp no w3 V) (fun _ i _ => N - (intOf i).toNat)
    case atStart => exact ⟨0, _, by omega, rfl, rfl, by rw [show pre M N T r 0 = [] from rfl, heardX_nil]; exact G0.out, q4.out.mono (fun g _ h => by cases h)⟩
    case round =>
      clear G0 q4 hH4
      obtain ⟨i, vs, hi, rfl, rfl, gG, gK⟩ := hrel
      have gG' := Lib.hid gG
      have gK' := Lib.hid gK
      clear gG gK
      by_cases hiN : i < N
      · go_wp2_with fail
        refine (HO.out i hiN _).mono ?_
        rintro e w5 ⟨v, rfl, ol, k5⟩
        have hB0 := blk_lt gG'.out.head
        obtain ⟨B0, hB0e⟩ : ∃ B0, wr.heap.size = B0 := ⟨_, rfl⟩
        rw [hB0e] at ol hB0
        have hLl : (mvFrom M N T r i).length ≤ 64 := by have := mvFrom_len M N T r i h1; omega
        have hDl : (pre M N T r i).length ≤ 4096 := by
          have := pre_len M N T r i h1
          have : i * N ≤ 64 * 64 := Nat.mul_le_mul (by omega) h2
          omega
        have hat := Lib.hid (hatA.out i hiN)
        have hfr := Lib.hid (mvFrom_fr M N T r i)
        have hto := Lib.hid (htoA.out i hiN)
        have hsc := Lib.hid (pre_succ M N T r i)
        obtain ⟨L, hL⟩ : ∃ L, (mvFrom M N T r i).length = L := ⟨_, rfl⟩
        rw [hL] at ol hLl
        obtain ⟨n0, hn0⟩ : ∃ n0, nP + (pre M N T r i).length = n0 := ⟨_, rfl⟩
        rw [hn0] at ⊢
        obtain ⟨al, cpl, rfl, u1, u2, u3, u4, u5⟩ := ol.slice
        have aw0 := Lib.hid (show ∀ j (h : j < vs.length) g, (vs[j]'h).ownBlock = some g → (Value.slice al L cpl).ownBlock ≠ some g from fun j h g h1 h2 => by
          have e1 := ((gG'.out.own j h (by rw [← gG'.out.len]; exact h)).block h1).2
          have e2 := (ol.block h2).1
          omega)
        have G5 := Lib.hid (gG'.out.no k5)
        have K5 := Lib.hid (gK'.out.trans k5)
        have ol5 := Lib.hid ol
        have hL' := Lib.hid hL
        have hn0' := Lib.hid hn0
        clear gG' gK' k5 ol hB0e hL hn0 u3 u4 u5
        go_wp2_with fail
        go_loopw [17, 92] (fun n c V => ∃ (k : Nat) (vs : List Value), k ≤ L ∧ c = .int .i64 k ∧ n = .int .i64 ((n0 + k : Nat) : Int) ∧ Grid V (H + 1) H 24 31 5 vs (heardX N (pre M N T r i ++ (mvFrom M N T r i).take k)) ∧
          OwnK V B0 31 5 (.slice al L cpl) L (mvs (mvFrom M N T r i)) ∧ (∀ j (h : j < vs.length) g, (vs[j]'h).ownBlock = some g → (Value.slice al L cpl).ownBlock ≠ some g) ∧ Kp no w3 V) (fun _ c _ => L - (intOf c).toNat)
        case atStart => exact ⟨0, vs, by omega, rfl, rfl, by rw [List.take_zero, List.append_nil]; exact G5.out, ol5.out, aw0.out, K5.out⟩
        case round =>
          clear aw0 G5 K5 ol5 vs w5
          obtain ⟨k, vs, hk, rfl, rfl, gG, gl, gA, gK⟩ := hrel
          have gG' := Lib.hid gG
          have gl' := Lib.hid gl
          have gA' := Lib.hid gA
          have gK' := Lib.hid gK
          clear gG gl gA gK
          by_cases hkL : k < L
          · have hkL2 : k < (mvFrom M N T r i).length := by rw [hL'.out]; exact hkL
            obtain ⟨bl, ol, rfl, z0, z1, z2, z3, z4⟩ := (OwnK.rdM2 gl'.out hL'.out).cells hkL2
            obtain ⟨hlt, hae⟩ := hat.out k hkL2
            obtain ⟨ba, oa, rfl, y0, y1, y2, y3, y4⟩ := (OwnK.rdM2 (oa'.out.no gK'.out) hnA'.out).cells hlt
            rw [hae] at y0 y1 y2 y3 y4
            rw [hnP'.out, hn0'.out] at y0 y1 y2 y3 y4
            have hlt2 : n0 + k < nA := by rw [hnP'.out, hn0'.out, hnA'.out] at hlt; exact hlt
            have f1 := hfr.out _ (List.getElem_mem hkL2)
            have f2 := hto.out _ (List.getElem_mem hkL2)
            have htk := Lib.hid (List.take_succ_eq_append_getElem hkL2)
            obtain ⟨m, hm9⟩ : ∃ m, (mvFrom M N T r i)[k]'hkL2 = m := ⟨_, rfl⟩
            rw [hm9] at y0 y1 y2 y3 y4 z0 z1 z2 z3 z4 f1 f2
            have hm9' := Lib.hid hm9
            clear hae hm9 hlt
            obtain ⟨_, mf, mt, ma, mb⟩ := m
            simp only at *
            obtain ⟨f11, f12⟩ := f1
            obtain rfl := f11.symm
            obtain rfl := f12.symm
            obtain ⟨nn, hnn⟩ : ∃ nn, n0 + k = nn := ⟨_, rfl⟩
            rw [hnn] at y0 y1 y2 y3 y4 hlt2 ⊢
            have hnn' := Lib.hid hnn
            clear hnn
            have hN0 : ((mt : Int) < 0) = False := by simp
            have hNN : ((mt : Int) ≥ N) = False := by simp; omega
            have hne : ∀ w, (binOp .neq 31 (.agg #[.int .i64 r, .int .i64 i, .int .i64 mt, .int .i64 ma, .int .i64 mb]) (.agg #[.int .i64 r, .int .i64 i, .int .i64 mt, .int .i64 ma, .int .i64 mb])).run Try.prog w = .ok (.bool false) w := fun w => by
              have := neq_mv ⟨r, i, mt, ma, mb⟩ ⟨r, i, mt, ma, mb⟩ w
              simpa [moveV, sameMv] using this
            go_wp2_with fail
            go_quiet (fail)
            go_wp2_with fail
            -- REGION25
            have hvN : vs.length = N := by rw [gG'.out.len, heardX_len]
            have hmv : mt < vs.length := by omega
            have hD : (heardOne mt (pre M N T r i ++ (mvFrom M N T r i).take k)).length ≤ 4160 := by
              refine Nat.le_trans (heardOne_len _ _) ?_
              rw [List.length_append, List.length_take]
              omega
            have hc0 := gG'.out.cell hmv
            have hown := gG'.out.own mt hmv (by rw [heardX_len]; exact f2)
            rw [heardX_at N _ mt f2] at hown
            have hHb := gG'.out.head
            have hv0H := gG'.out.far mt hmv
            have hv0l := fun g => gA'.out mt hmv g
            obtain ⟨v0, hv0⟩ : ∃ v0, vs[mt]'hmv = v0 := ⟨_, rfl⟩
            rw [hv0] at hc0 hown hv0H hv0l
            have hbl := (gl'.out.block (show (Value.slice (some ⟨bl, ol, none⟩) L cpl).ownBlock = some bl from rfl))
            have hv0bl : v0.ownBlock ≠ some bl := fun h => hv0l _ h rfl
            obtain ⟨D, hDe⟩ : ∃ D, pre M N T r i ++ (mvFrom M N T r i).take k = D := ⟨_, rfl⟩
            rw [hDe] at hown hD
            obtain ⟨a0, c0, rfl, -, -, -, -, w5⟩ := hown.slice
            have hown' := Lib.hid hown
            have hv0' := Lib.hid hv0
            have hHb' := Lib.hid hHb
            have hvN' := Lib.hid hvN
            have hv0H' := Lib.hid hv0H
            have hv0bl' := Lib.hid hv0bl
            have hDe' := Lib.hid hDe
            have hbl' := Lib.hid hbl
            have hHlt := blk_lt hHb'.out
            clear hown hv0 hHb hvN hv0H hv0l hv0bl hDe w5 hbl y0 y1 y2 y3 y4
            generalize hgn : (heardOne mt D).length = hn at *
            have hgn' := Lib.hid hgn
            clear hgn
            refine wp_region_held_drew (S := (fun W => (W.cell? ⟨bl, ol + k * 5, none⟩ = some (.int .i64 r) ∧ W.cell? ⟨bl, ol + k * 5 + 1, none⟩ = some (.int .i64 i) ∧ W.cell? ⟨bl, ol + k * 5 + 2, none⟩ = some (.int .i64 mt) ∧ W.cell? ⟨bl, ol + k * 5 + 3, none⟩ = some (.int .i64 ma) ∧ W.cell? ⟨bl, ol + k * 5 + 4, none⟩ = some (.int .i64 mb)) ∧ Kp (fun g => g = H ∨ (Value.slice a0 hn c0).ownBlock = some g) wr W)) (by kernel_rfl) ⟨⟨z0, z1, z2, z3, z4⟩, by first | exact ((Kp.refl _ wr).drewN _).drew | exact (Kp.refl _ wr).drew.drew⟩ (fun hHeld => ?_)
            refine takeL (i := 0) rfl (by kernel_rfl) (by kernel_rfl) (by kernel_rfl) (fun _ _ _ _ h => h) hHeld ?_ (Or.inl ⟨by rfl, ?_⟩) ?_
            rotate_left
            · intro W hW
              (try dsimp only at hW)
              first | (go_simp; done) | (go_simp; with_reducible rfl)
            simp only [Act.put, List.setIfInBounds_toArray, List.set_cons_zero, List.set_cons_succ]
            refine takeL (i := 1) rfl (by kernel_rfl) (by kernel_rfl) (by kernel_rfl) (fun _ _ _ _ h => h) hHeld ?_ (Or.inl ⟨by rfl, ?_⟩) ?_
            rotate_left
            · intro W hW
              (try dsimp only at hW)
              first | (go_simp; done) | (go_simp; with_reducible rfl)
            simp only [Act.put, List.setIfInBounds_toArray, List.set_cons_zero, List.set_cons_succ]
            refine takeL (i := 2) rfl (by kernel_rfl) (by kernel_rfl) (by kernel_rfl) (fun _ _ _ _ h => h) hHeld ?_ (Or.inl ⟨by rfl, ?_⟩) ?_
            rotate_left
            · intro W hW
              (try dsimp only at hW)
              first | (go_simp; done) | (go_simp; with_reducible rfl)
            simp only [Act.put, List.setIfInBounds_toArray, List.set_cons_zero, List.set_cons_succ]
            refine takeL (i := 3) rfl (by kernel_rfl) (by kernel_rfl) (by kernel_rfl) (fun _ _ _ _ h => h) hHeld ?_ (Or.inl ⟨by rfl, ?_⟩) ?_
            rotate_left
            · intro W hW
              (try dsimp only at hW)
              first | (go_simp; done) | (go_simp; with_reducible rfl)
            simp only [Act.put, List.setIfInBounds_toArray, List.set_cons_zero, List.set_cons_succ]
            refine takeL (i := 4) rfl (by kernel_rfl) (by kernel_rfl) (by kernel_rfl) (fun _ _ _ _ h => h) hHeld ?_ (Or.inl ⟨by rfl, ?_⟩) ?_
            rotate_left
            · intro W hW
              (try dsimp only at hW)
              first | (go_simp; done) | (go_simp; with_reducible rfl)
            simp only [Act.put, List.setIfInBounds_toArray, List.set_cons_zero, List.set_cons_succ]
            refine takeL (i := 5) rfl (by kernel_rfl) (by kernel_rfl) (by kernel_rfl) (fun _ _ _ _ h => h) hHeld ?_ (Or.inl ⟨by rfl, ?_⟩) ?_
            rotate_left
            · intro W hW
              (try dsimp only at hW)
              first | (go_simp; done) | (go_simp; with_reducible rfl)
            simp only [Act.put, List.setIfInBounds_toArray, List.set_cons_zero, List.set_cons_succ]
            refine takeL (i := 6) rfl (by kernel_rfl) (by kernel_rfl) (by kernel_rfl) (fun _ _ _ _ h => h) hHeld ?_ (Or.inl ⟨by rfl, ?_⟩) ?_
            rotate_left
            · intro W hW
              (try dsimp only at hW)
              first | (go_simp; done) | (go_simp; with_reducible rfl)
            simp only [Act.put, List.setIfInBounds_toArray, List.set_cons_zero, List.set_cons_succ]
            refine takeL (i := 7) rfl (by kernel_rfl) (by kernel_rfl) (by kernel_rfl) (fun _ _ _ _ h => h) hHeld ?_ (Or.inl ⟨by rfl, ?_⟩) ?_
            rotate_left
            · intro W hW
              (try dsimp only at hW)
              first | (go_simp; done) | (go_simp; with_reducible rfl)
            simp only [Act.put, List.setIfInBounds_toArray, List.set_cons_zero, List.set_cons_succ]
            refine takeL (i := 8) rfl (by kernel_rfl) (by kernel_rfl) (by kernel_rfl) (fun _ _ _ _ h => h) hHeld ?_ (Or.inl ⟨by rfl, ?_⟩) ?_
            rotate_left
            · intro W hW
              (try dsimp only at hW)
              first | (go_simp; done) | (go_simp; with_reducible rfl)
            simp only [Act.put, List.setIfInBounds_toArray, List.set_cons_zero, List.set_cons_succ]
            refine takeL (i := 9) rfl (by kernel_rfl) (by kernel_rfl) (by kernel_rfl) (fun _ _ _ _ h => h) hHeld ?_ (Or.inl ⟨by rfl, ?_⟩) ?_
            rotate_left
            · intro W hW
              (try dsimp only at hW)
              first | (go_simp; done) | (go_simp; with_reducible rfl)
            simp only [Act.put, List.setIfInBounds_toArray, List.set_cons_zero, List.set_cons_succ]
            refine takeL (i := 10) rfl (by kernel_rfl) (by kernel_rfl) (by kernel_rfl) (fun _ _ _ _ h => h) hHeld ?_ (Or.inl ⟨by rfl, ?_⟩) ?_
            rotate_left
            · intro W hW
              (try dsimp only at hW)
              first | (go_simp; done) | (go_simp; with_reducible rfl)
            simp only [Act.put, List.setIfInBounds_toArray, List.set_cons_zero, List.set_cons_succ]
            refine takeL (i := 11) rfl (by kernel_rfl) (by kernel_rfl) (by kernel_rfl) (fun _ _ _ _ h => h) hHeld ?_ (Or.inl ⟨by rfl, ?_⟩) ?_
            rotate_left
            · intro W hW
              (try dsimp only at hW)
              first | (go_simp; done) | (go_simp; with_reducible rfl)
            simp only [Act.put, List.setIfInBounds_toArray, List.set_cons_zero, List.set_cons_succ]
            refine takeL (i := 12) rfl (by kernel_rfl) (by kernel_rfl) (by kernel_rfl) (fun _ _ _ _ h => h) hHeld ?_ (Or.inl ⟨by rfl, ?_⟩) ?_
            rotate_left
            · intro W hW
              (try dsimp only at hW)
              first | (go_simp; done) | (go_simp; with_reducible rfl)
            simp only [Act.put, List.setIfInBounds_toArray, List.set_cons_zero, List.set_cons_succ]
            refine takeL (i := 14) rfl (by kernel_rfl) (by kernel_rfl) (by kernel_rfl) (fun _ _ _ _ h => h) hHeld ?_ (Or.inl ⟨by rfl, ?_⟩) ?_
            rotate_left
            · intro W hW
              (try dsimp only at hW)
              first | (go_simp; done) | (go_simp; with_reducible rfl)
            simp only [Act.put, List.setIfInBounds_toArray, List.set_cons_zero, List.set_cons_succ]
            refine takeL (i := 15) rfl (by kernel_rfl) (by kernel_rfl) (by kernel_rfl) (fun _ _ _ _ h => h) hHeld ?_ (Or.inl ⟨by rfl, ?_⟩) ?_
            rotate_left
            · intro W hW
              (try dsimp only at hW)
              first | (go_simp; done) | (go_simp; with_reducible rfl)
            simp only [Act.put, List.setIfInBounds_toArray, List.set_cons_zero, List.set_cons_succ]
            refine takeL (i := 16) rfl (by kernel_rfl) (by kernel_rfl) (by kernel_rfl) (fun _ _ _ _ h => h) hHeld ?_ (Or.inl ⟨by rfl, ?_⟩) ?_
            rotate_left
            · intro W hW
              (try dsimp only at hW)
              first | (go_simp; done) | (go_simp; with_reducible rfl)
            simp only [Act.put, List.setIfInBounds_toArray, List.set_cons_zero, List.set_cons_succ]
            refine takeL (i := 17) rfl (by kernel_rfl) (by kernel_rfl) (by kernel_rfl) (fun _ _ _ _ h => h) hHeld ?_ (Or.inl ⟨by rfl, ?_⟩) ?_
            rotate_left
            · intro W hW
              (try dsimp only at hW)
              first | (go_simp; done) | (go_simp; with_reducible rfl)
            simp only [Act.put, List.setIfInBounds_toArray, List.set_cons_zero, List.set_cons_succ]
            generalize hW0 : (wr.drewN nq).drew = W0 at *
            have kW0 : Kp no wr W0 := by rw [← hW0]; exact ((Kp.refl _ wr).drewN _).drew
            have hcW := kW0.cell hc0 (fun h => h)
            clear hW0
            refine callL2 (i := 13) (j := 18) rfl rfl (by kernel_rfl) (fun K hK => ?_) (fun K hK => ?_)
            · go_simp
              have hH3 := hHeld
              refine hK.out _ _ hH3 (fun hHeld2 => ?_)
              clear hK hHeld hH3
              have hHeld := hHeld2
              clear hHeld2
              try simp only [Act.put, List.setIfInBounds_toArray, List.set_cons_zero, List.set_cons_succ]
              refine callL (i := 18) rfl (by kernel_rfl) (fun K hK => ?_)
              go_simp
              have hkb : Kp no W0 (W0.alloc (.cells #[.int .i64 r, .int .i64 i, .int .i64 mt, .int .i64 ma, .int .i64 mb] 31)) := (Kp.refl no W0).alloc _
              have hH3 := And.intro (show _ ∧ _ ∧ _ ∧ _ ∧ _ from ⟨hkb.cell hHeld.1.1 (fun h => h), hkb.cell hHeld.1.2.1 (fun h => h), hkb.cell hHeld.1.2.2.1 (fun h => h), hkb.cell hHeld.1.2.2.2.1 (fun h => h), hkb.cell hHeld.1.2.2.2.2 (fun h => h)⟩) (hHeld.2.alloc (.cells #[.int .i64 r, .int .i64 i, .int .i64 mt, .int .i64 ma, .int .i64 mb] 31))
              refine hK.out _ _ hH3 (fun hHeld2 => ?_)
              clear hK hHeld hH3
              have hHeld := hHeld2
              clear hHeld2
              try simp only [Act.put, List.setIfInBounds_toArray, List.set_cons_zero, List.set_cons_succ]
              have k01 := kW0.trans ((Kp.refl no W0).alloc (.cells #[.int .i64 r, .int .i64 i, .int .i64 mt, .int .i64 ma, .int .i64 mb] 31))
              have hsz1 := k01.size
              have hk6lt := (Kp.refl no W0).alloc (.cells #[.int .i64 r, .int .i64 i, .int .i64 mt, .int .i64 ma, .int .i64 mb] 31) |>.size
              obtain ⟨v6, w6, hrun, ho6, hk6, hw6⟩ := run_appK2 (P := Try.prog) (ty := 24) elemMv (hown'.out.no k01) (by omega) (ys := mvs [⟨r, i, mt, ma, mb⟩]) (m := 1) (c := 1) rfl (rd_newK W0 _ (mvs [⟨r, i, mt, ma, mb⟩])) (mvs_one _) (by simp only [maxLen]; omega) (by omega) (fun h => (by cases h))
              obtain ⟨a6, c6, rfl, -⟩ := ho6.slice
              have hH3 := And.intro (show _ ∧ _ ∧ _ ∧ _ ∧ _ from ⟨hk6.cell hHeld.1.1 hv0bl'.out, hk6.cell hHeld.1.2.1 hv0bl'.out, hk6.cell hHeld.1.2.2.1 hv0bl'.out, hk6.cell hHeld.1.2.2.2.1 hv0bl'.out, hk6.cell hHeld.1.2.2.2.2 hv0bl'.out⟩) (hHeld.2.then hk6 (U := fun g => g = H ∨ (Value.slice a0 hn c0).ownBlock = some g) (fun _ _ h => h) (fun _ _ h => .inr h))
              have hB6 := Lib.hid (hk6.at (k01.at hHb'.out (fun h => h)) hv0H'.out)
              have hcH := hk6.cell (k01.cell hc0 (fun h => h)) hv0H'.out
              have hfH := blk_frozen hB6.out mt
              refine appL (i := 19) rfl (by kernel_rfl) rfl (.tmp 158) (.tmp 163) _ rfl (.slice a0 hn c0) _ rfl rfl hrun hH3 (fun hHeld2 => ?_)
              clear hHeld hH3 hrun
              have hHeld := hHeld2
              have ho6' := Lib.hid ho6
              have hw6' := Lib.hid hw6
              have hk6' := Lib.hid hk6
              clear hHeld2 ho6 hw6 hk6
              try simp only [Act.put, List.setIfInBounds_toArray, List.set_cons_zero, List.set_cons_succ]
              refine callL (i := 20) rfl (by kernel_rfl) (fun K hK => ?_)
              go_simp
              have hH3 := hHeld
              refine hK.out _ _ hH3 (fun hHeld2 => ?_)
              clear hK hHeld hH3
              have hHeld := hHeld2
              clear hHeld2
              try simp only [Act.put, List.setIfInBounds_toArray, List.set_cons_zero, List.set_cons_succ]
              refine callL (i := 21) rfl (by kernel_rfl) (fun K hK => ?_)
              go_simp
              have ks : Kp (fun g => g = H) w6 (w6.setCell ⟨H, mt, none⟩ (.slice a6 (hn + 1) c6)) := Kp.setCell (S := fun g => g = H) (Kp.refl _ w6) (p := ⟨H, mt, none⟩) (.inl rfl) _
              have hblH : ¬ bl = H := by have := hbl'.out.1; omega
              have hH3 := And.intro (show _ ∧ _ ∧ _ ∧ _ ∧ _ from ⟨ks.cell hHeld.1.1 hblH, ks.cell hHeld.1.2.1 hblH, ks.cell hHeld.1.2.2.1 hblH, ks.cell hHeld.1.2.2.2.1 hblH, ks.cell hHeld.1.2.2.2.2 hblH⟩) (hHeld.2.then ks (U := fun g => g = H ∨ (Value.slice a0 hn c0).ownBlock = some g) (fun _ _ h => h) (fun _ _ h => .inl h))
              refine hK.out _ _ hH3 (fun hHeld2 => ?_)
              clear hK hHeld hH3
              have hHeld := hHeld2
              clear hHeld2
              try simp only [Act.put, List.setIfInBounds_toArray, List.set_cons_zero, List.set_cons_succ]
              refine wpAnyH_done (by kernel_rfl) ?_ _
              have gP := Grid.put (gG'.out.no k01) hmv (v' := .slice a6 (hn + 1) c6) (x' := (hn + 1, mvs (heardOne mt D) ++ mvs [⟨r, i, mt, ma, mb⟩])) (by rw [hv0'.out]; exact hk6'.out) ho6'.out (by rw [hv0'.out]; exact hw6'.out)
              have gP' := Lib.hid gP
              have hHeld' := Lib.hid hHeld
              clear gP hHeld
              go_wp2_with fail
              go_roundw
              case rel =>
                refine ⟨k + 1, vs.set mt (.slice a6 (hn + 1) c6), by omega, by go_num, ?_, ?_, ?_, ?_, ?_⟩
                · rw [← Nat.add_assoc, hnn'.out]; go_num
                · rw [htk.out, hm9'.out, ← List.append_assoc, hDe'.out, heardX_add, hgn'.out, ← hDe'.out]
                  have := gP'.out
                  rw [← hDe'.out] at this
                  exact this
                · refine gl'.out.kept hHeld'.out.2 (fun g hg hS => ?_)
                  obtain rfl : bl = g := Option.some.inj hg
                  rcases hS with h | h
                  · have := hbl'.out.1; omega
                  · exact hv0bl'.out h
                · intro j hj g hg hg2
                  obtain rfl : bl = g := Option.some.inj hg2
                  by_cases hjm : mt = j
                  · subst hjm
                    rw [List.getElem_set_self] at hg
                    rcases hw6'.out with h | h
                    · rw [h] at hg; exact hv0bl'.out hg
                    · rw [h] at hg; have := Option.some.inj hg; have := hbl'.out.2; omega
                  · rw [List.getElem_set_ne hjm] at hg
                    exact gA'.out j (by simpa using hj) _ hg rfl
                · refine gK'.out.then hHeld'.out.2 (fun _ _ h => h) (fun g hg hS => ?_)
                  exfalso
                  rcases hS with h | h
                  · have := hH'.out; omega
                  · have := (hown'.out.block h).1; have := hH'.out; omega
              case measure => (simp [intOf]; try omega)
            · go_simp
              have hkb : Kp no W0 (W0.alloc (.cells #[.int .i64 r, .int .i64 i, .int .i64 mt, .int .i64 ma, .int .i64 mb] 31)) := (Kp.refl no W0).alloc _
              have hH3 := And.intro (show _ ∧ _ ∧ _ ∧ _ ∧ _ from ⟨hkb.cell hHeld.1.1 (fun h => h), hkb.cell hHeld.1.2.1 (fun h => h), hkb.cell hHeld.1.2.2.1 (fun h => h), hkb.cell hHeld.1.2.2.2.1 (fun h => h), hkb.cell hHeld.1.2.2.2.2 (fun h => h)⟩) (hHeld.2.alloc (.cells #[.int .i64 r, .int .i64 i, .int .i64 mt, .int .i64 ma, .int .i64 mb] 31))
              refine hK.out _ _ hH3 (fun hHeld2 => ?_)
              clear hK hHeld hH3
              have hHeld := hHeld2
              clear hHeld2
              try simp only [Act.put, List.setIfInBounds_toArray, List.set_cons_zero, List.set_cons_succ]
              have hcW2 := hkb.cell hcW (fun h => h)
              refine callL (i := 13) rfl (by kernel_rfl) (fun K hK => ?_)
              go_simp
              have hH3 := hHeld
              refine hK.out _ _ hH3 (fun hHeld2 => ?_)
              clear hK hHeld hH3
              have hHeld := hHeld2
              clear hHeld2
              try simp only [Act.put, List.setIfInBounds_toArray, List.set_cons_zero, List.set_cons_succ]
              have k01 := kW0.trans ((Kp.refl no W0).alloc (.cells #[.int .i64 r, .int .i64 i, .int .i64 mt, .int .i64 ma, .int .i64 mb] 31))
              have hsz1 := k01.size
              have hk6lt := (Kp.refl no W0).alloc (.cells #[.int .i64 r, .int .i64 i, .int .i64 mt, .int .i64 ma, .int .i64 mb] 31) |>.size
              obtain ⟨v6, w6, hrun, ho6, hk6, hw6⟩ := run_appK2 (P := Try.prog) (ty := 24) elemMv (hown'.out.no k01) (by omega) (ys := mvs [⟨r, i, mt, ma, mb⟩]) (m := 1) (c := 1) rfl (rd_newK W0 _ (mvs [⟨r, i, mt, ma, mb⟩])) (mvs_one _) (by simp only [maxLen]; omega) (by omega) (fun h => (by cases h))
              obtain ⟨a6, c6, rfl, -⟩ := ho6.slice
              have hH3 := And.intro (show _ ∧ _ ∧ _ ∧ _ ∧ _ from ⟨hk6.cell hHeld.1.1 hv0bl'.out, hk6.cell hHeld.1.2.1 hv0bl'.out, hk6.cell hHeld.1.2.2.1 hv0bl'.out, hk6.cell hHeld.1.2.2.2.1 hv0bl'.out, hk6.cell hHeld.1.2.2.2.2 hv0bl'.out⟩) (hHeld.2.then hk6 (U := fun g => g = H ∨ (Value.slice a0 hn c0).ownBlock = some g) (fun _ _ h => h) (fun _ _ h => .inr h))
              have hB6 := Lib.hid (hk6.at (k01.at hHb'.out (fun h => h)) hv0H'.out)
              have hcH := hk6.cell (k01.cell hc0 (fun h => h)) hv0H'.out
              have hfH := blk_frozen hB6.out mt
              refine appL (i := 19) rfl (by kernel_rfl) rfl (.tmp 158) (.tmp 163) _ rfl (.slice a0 hn c0) _ rfl rfl hrun hH3 (fun hHeld2 => ?_)
              clear hHeld hH3 hrun
              have hHeld := hHeld2
              have ho6' := Lib.hid ho6
              have hw6' := Lib.hid hw6
              have hk6' := Lib.hid hk6
              clear hHeld2 ho6 hw6 hk6
              try simp only [Act.put, List.setIfInBounds_toArray, List.set_cons_zero, List.set_cons_succ]
              refine callL (i := 20) rfl (by kernel_rfl) (fun K hK => ?_)
              go_simp
              have hH3 := hHeld
              refine hK.out _ _ hH3 (fun hHeld2 => ?_)
              clear hK hHeld hH3
              have hHeld := hHeld2
              clear hHeld2
              try simp only [Act.put, List.setIfInBounds_toArray, List.set_cons_zero, List.set_cons_succ]
              refine callL (i := 21) rfl (by kernel_rfl) (fun K hK => ?_)
              go_simp
              have ks : Kp (fun g => g = H) w6 (w6.setCell ⟨H, mt, none⟩ (.slice a6 (hn + 1) c6)) := Kp.setCell (S := fun g => g = H) (Kp.refl _ w6) (p := ⟨H, mt, none⟩) (.inl rfl) _
              have hblH : ¬ bl = H := by have := hbl'.out.1; omega
              have hH3 := And.intro (show _ ∧ _ ∧ _ ∧ _ ∧ _ from ⟨ks.cell hHeld.1.1 hblH, ks.cell hHeld.1.2.1 hblH, ks.cell hHeld.1.2.2.1 hblH, ks.cell hHeld.1.2.2.2.1 hblH, ks.cell hHeld.1.2.2.2.2 hblH⟩) (hHeld.2.then ks (U := fun g => g = H ∨ (Value.slice a0 hn c0).ownBlock = some g) (fun _ _ h => h) (fun _ _ h => .inl h))
              refine hK.out _ _ hH3 (fun hHeld2 => ?_)
              clear hK hHeld hH3
              have hHeld := hHeld2
              clear hHeld2
              try simp only [Act.put, List.setIfInBounds_toArray, List.set_cons_zero, List.set_cons_succ]
              refine wpAnyH_done (by kernel_rfl) ?_ _
              have gP := Grid.put (gG'.out.no k01) hmv (v' := .slice a6 (hn + 1) c6) (x' := (hn + 1, mvs (heardOne mt D) ++ mvs [⟨r, i, mt, ma, mb⟩])) (by rw [hv0'.out]; exact hk6'.out) ho6'.out (by rw [hv0'.out]; exact hw6'.out)
              have gP' := Lib.hid gP
              have hHeld' := Lib.hid hHeld
              clear gP hHeld
              go_wp2_with fail
              go_roundw
              case rel =>
                refine ⟨k + 1, vs.set mt (.slice a6 (hn + 1) c6), by omega, by go_num, ?_, ?_, ?_, ?_, ?_⟩
                · rw [← Nat.add_assoc, hnn'.out]; go_num
                · rw [htk.out, hm9'.out, ← List.append_assoc, hDe'.out, heardX_add, hgn'.out, ← hDe'.out]
                  have := gP'.out
                  rw [← hDe'.out] at this
                  exact this
                · refine gl'.out.kept hHeld'.out.2 (fun g hg hS => ?_)
                  obtain rfl : bl = g := Option.some.inj hg
                  rcases hS with h | h
                  · have := hbl'.out.1; omega
                  · exact hv0bl'.out h
                · intro j hj g hg hg2
                  obtain rfl : bl = g := Option.some.inj hg2
                  by_cases hjm : mt = j
                  · subst hjm
                    rw [List.getElem_set_self] at hg
                    rcases hw6'.out with h | h
                    · rw [h] at hg; exact hv0bl'.out hg
                    · rw [h] at hg; have := Option.some.inj hg; have := hbl'.out.2; omega
                  · rw [List.getElem_set_ne hjm] at hg
                    exact gA'.out j (by simpa using hj) _ hg rfl
                · refine gK'.out.then hHeld'.out.2 (fun _ _ h => h) (fun g hg hS => ?_)
                  exfalso
                  rcases hS with h | h
                  · have := hH'.out; omega
                  · have := (hown'.out.block h).1; have := hH'.out; omega
              case measure => (simp [intOf]; try omega)
            -- END25
          · obtain rfl : L = k := by omega
            have htk := Lib.hid (show (mvFrom M N T r i).take L = mvFrom M N T r i from List.take_of_length_le (by rw [hL'.out]; exact Nat.le_refl _))
            go_wp2_with fail
            go_roundw
            case rel =>
              refine ⟨i + 1, vs, by omega, by go_num, ?_, ?_, gK'.out⟩
              · rw [hsc.out, List.length_append, hL'.out, ← Nat.add_assoc, hn0'.out]
              · have := gG'.out
                rw [htk.out, ← hsc.out] at this
                exact this
            case measure => (simp [intOf]; try omega)
      · obtain rfl : N = i := by omega
        have hfin := Lib.hid (show pre M N T r N = movesOf M N T r from rfl)
        have hlen : nP + (pre M N T r N).length ≤ nA := by rw [hfin.out, ← hnA'.out, ← hnP'.out, hsp.out, List.length_append, List.length_append]; omega
        obtain ⟨nE, hnE⟩ : ∃ nE, nP + (pre M N T r N).length = nE := ⟨_, rfl⟩
        rw [hnE] at hlen ⊢
        have hnE' := Lib.hid hnE
        clear hnE
        have hways : Hid ((nE = nA ∧ True) ∨ (nE < nA ∧ ∃ b o x : Nat, ca = some ⟨b, o, none⟩ ∧ w3.cell? ⟨b, o + nE * 5, none⟩ = some (.int .i64 (x : Nat)) ∧ r < x)) := Lib.hid (by
          by_cases hkA : nE < nA
          · have hkA2 : nE < (allOf M N T).length := by rw [hnA'.out]; exact hkA
            obtain ⟨b, o, rfl, z0, -⟩ := (OwnK.rdM2 oa'.out hnA'.out).cells hkA2
            refine .inr ⟨hkA, b, o, _, rfl, z0, ?_⟩
            have e : (allOf M N T)[nE]'hkA2 ∈ R := by
              rw [List.getElem_of_eq hsp.out hkA2, List.getElem_append_right (by rw [hnP'.out]; have := hnE'.out; omega), List.getElem_append_right (by rw [hnP'.out, ← hfin.out]; have := hnE'.out; omega)]
              exact List.getElem_mem _
            exact hRd'.out _ e
          · exact .inl ⟨by omega, trivial⟩)
        have gG' := Lib.hid gG'.out
        go_wp2_with fail
        go_loopw [23] (fun c V => ∃ k : Nat, k ≤ N ∧ c = .int .i64 k ∧ Grid V (H + 1) H 24 31 5 vs (heardX N (pre M N T r N)) ∧ Kp no w3 V) (fun c _ => N - (intOf c).toNat)
        case atStart => exact ⟨0, by omega, rfl, gG'.out, gK'.out⟩
        case round =>
          clear gG' gK'
          obtain ⟨k, hk, rfl, gG, gK⟩ := hrel
          have gG' := Lib.hid gG
          have gK' := Lib.hid gK
          clear gG gK
          by_cases hkN : k < N
          · go_wp2_with fail
            refine (HI.out k hkN _).mono ?_
            rintro e w5 ⟨v, rfl, ol, k5⟩
            have hvN : vs.length = N := by rw [gG'.out.len, heardX_len]
            have hkv : k < vs.length := by omega
            have G5 := gG'.out.no k5
            have hc0 := G5.cell hkv
            have hown := G5.own k hkv (by rw [heardX_len]; exact hkN)
            rw [heardX_at N _ k hkN] at hown
            obtain ⟨v0, hv0⟩ : ∃ v0, vs[k]'hkv = v0 := ⟨_, rfl⟩
            rw [hv0] at hc0 hown
            obtain ⟨a0, c0, rfl, -, -, -, -, -⟩ := hown.slice
            obtain ⟨al, cpl, rfl, -, -, -, -, -⟩ := ol.slice
            have hlm : ((movesOf M N T r).filter (fun m => (m.to : Int) == (k : Int))).length ≤ 1000000 := by
              have e1 := List.length_filter_le (fun m => (m.to : Int) == (k : Int)) (movesOf M N T r)
              have e2 : nP + (movesOf M N T r).length ≤ nA := by rw [← hfin.out, hnE'.out]; exact hlen
              omega
            have hs := Lib.hid (same_c al a0 _ _ _ _ cpl c0 w5 rfl rfl hlm (OwnK.rdM2 ol rfl) (OwnK.rdM2 hown rfl))
            rw [hfin.out] at hs
            have hde : decide (((movesOf M N T r).filter (fun m => (m.to : Int) == (k : Int))) = heardOne k (movesOf M N T r)) = true := decide_eq_true rfl
            rw [hde] at hs
            rw [hfin.out] at hc0
            have hHlt := blk_lt G5.head
            have G5' := Lib.hid G5
            have K5 := Lib.hid (gK'.out.trans k5)
            have hvN' := Lib.hid hvN
            clear hown ol G5 k5 hlm hde hv0 gG' gK' hvN hkv
            generalize (heardOne k (movesOf M N T r)).length = l2 at *
            generalize ((movesOf M N T r).filter (fun m => (m.to : Int) == (k : Int))).length = l1 at *
            go_wp2_with fail
            refine hs.out.mono ?_
            rintro e w' ⟨rfl, nd, rfl⟩
            clear hs
            go_wp2_with fail
            go_roundw
            case rel => exact ⟨k + 1, by omega, by go_num, G5'.out.no ((Kp.refl no w5).drewN nd), K5.out.drewN nd⟩
            case measure => (simp [intOf]; try omega)
          · obtain rfl : N = k := by omega
            rcases hways.out with ⟨hkA, -⟩ | ⟨hkA, b, o, x, rfl, z0, hx⟩
            · subst hkA
              clear hways
              go_wp2_with fail
              go_ret
              exact ⟨rfl, q3.out.trans gK'.out⟩
            · have z := gK'.out.cell z0 (fun h => h)
              have hx2 : (r : Int) < (x : Int) := by omega
              clear hways z0
              go_wp2_with fail
              go_ret
              exact ⟨rfl, q3.out.trans gK'.out⟩

theorem swapPairs_w (mode p s round : Int) (w : World) (hm : (Lit.int .u8 mode).wf = true) (hp : (Lit.int .u8 p).wf = true) (hs : (Lit.int .u16 s).wf = true) (hr : (Lit.int .u8 round).wf = true) :
    Calls Try.prog 6 #[.int .u8 mode, .int .u8 p, .int .u16 s, .int .u8 round] w fun e w' => e = .returned (.bool true) ∧ Below w.heap.size w w' :=
  (swapPairs_c mode p s round w (wf_b hm).1 (wf_b hm).2 (wf_b hp).1 (wf_b hp).2 (wf_u16 hs).1 (wf_u16 hs).2 (wf_b hr).1 (wf_b hr).2).mono fun _ _ h => ⟨h.1, h.2.self_below⟩
end Go.Proofs.Ytamhlmfcnnomgaa
