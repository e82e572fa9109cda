/- The walk of NetOrder. -/
import Derived.Test.YtnkahibddhchlaaOrdL
import Derived.Deep.CutBlock
import Derived.Deep.CutRange
namespace Go.Proofs.Ytnkahibddhchlaa
open Go.RowKit
set_option linter.unusedVariables false

/-- The state: the net, the queue beside it. -/
def OrdR (p R : Nat) (B : Nat) (T : Int) (n : Nat) (v : Value) (W : List (List Int)) (L : List Pc) (V : World) : Prop :=
  ∃ t q, QAt 9 B v (strs W) q ∧ Tok T t ∧ W.length ≤ R ∧ W.length = n ∧ NAt p (sO R t W) (q :: L) V

set_option maxRecDepth 100000 in
set_option maxHeartbeats 8000000 in
theorem order_c (room : Int) (a : Option Addr) (len cap : Nat) (f : Nat → InB) (x : Option Addr) (xl xc : Nat) (zs : List Int) (w : World) (hz : 0 ≤ room ∧ room ≤ 255) (hf : RdRows w a len f) (hl : len ≤ 9223372036854775807) (hx : IsRow .u8 w x xl xc zs) :
    Calls Try.prog 4 #[.int .u8 room, .slice a len cap, .slice x xl xc] w fun e w' => e = .returned (.bool true) ∧ Kp no w w' := by
  have hal := Lib.hid (alive_c (SL.start w))
  have hf' := Lib.hid hf
  have hx' := Lib.hid hx
  have hxl : xl ≤ 9223372036854775807 := by
    rcases hx with ⟨_, rfl, _⟩ | ⟨_, _, h1, h2, _⟩
    · omega
    · simp only [maxLen] at h2; omega
  obtain ⟨N, rfl⟩ : ∃ N : Nat, room = N := ⟨room.toNat, by omega⟩
  have hN1 : N ≤ 255 := by omega
  clear hf hx hz
  go_enter Try.func4, Try.ntmps4
  go_wp2_with fail
  refine hal.out.mono ?_
  rintro e w1 ⟨rfl, H1⟩
  clear hal
  have hk1 := Lib.hid (H1.kp (.here _ _))
  by_cases hbig : 300 < len
  · clear H1
    go_wp2_with fail
    go_ret
    exact ⟨rfl, hk1.out⟩
  have hl2 : len ≤ 300 := by omega
  have hnew := Lib.hid (new_at 2 (N + 1) (by omega) (by omega) (by omega) (by omega) H1)
  rw [show (((2 : Nat)) : Int) = 2 from rfl, show ((N + 1 : Nat) : Int) = 1 + (N : Int) by omega] at hnew
  clear hbig hl H1 hk1
  obtain ⟨R, hR⟩ : ∃ R, N + 1 = R := ⟨_, rfl⟩
  have hR1 : (R : Int) = 1 + (N : Int) := by omega
  have hR2 : R ≤ 256 := by omega
  have hR3 : 1 ≤ R := by omega
  rw [hR, ← hR1] at hnew
  go_wp2_with fail
  rw [← hR1]
  clear hR1 hR hN1
  refine hnew.out.mono ?_
  rintro e w2 ⟨p, rfl, NN⟩
  have hN : Hid (OrdR p R 0 0 0 (.slice none 0 0) [] [.old w no] w2) := Lib.hid ⟨t0, _, QAt.nil _ _, Tok.zero _ (by omega), by simp, rfl, by
    have e : (⟨2, R, t0, fun _ => []⟩ : NSt) = sO R t0 [] := by
      unfold sO fW upd
      congr
      funext k
      simp
    rw [← e]
    exact NN.map fun N h => h.pure (q := .own 9 1 (.slice none 0 0) 0 []) (OwnK.nil _ _ _ _) (fun b hb => by cases hb) |>.perm List.perm_middle.symm⟩
  clear hnew NN
  unfold ptrV at *
  go_wp2_with fail
  go_loopw [41, 11] (fun i v V => ∃ (j n : Nat) (W : List (List Int)), j ≤ len ∧ i = .int .i64 j ∧ Hid (OrdR p R j (10 * j) n v W [.old w no] V)) (fun i _ _ => len - (intOf i).toNat)
  case atStart => exact ⟨0, 0, [], by omega, rfl, hN⟩
  case round =>
    clear hN
    obtain ⟨j, n, W, hj, rfl, hR⟩ := hrel
    by_cases hjl : j < len
    · obtain ⟨t, q, hq, hT, hWR, hWn, NN⟩ := hR.out
      obtain ⟨b, o, rfl, hc, hin⟩ := (hf'.out.no (NN.tail.kp (.there (.here _ _)))) j hjl
      have hrow : Hid (∀ V L, SL V (L ++ [.old w no]) → V.cell? ⟨b, o + j, none⟩ = some (.slice (f j).g (f j).bs.length (f j).c) ∧ RdB V (f j).g (f j).bs) := Lib.hid fun V L h => by
        obtain ⟨b', o', e, h1, h2⟩ := (hf'.out.no ((h.re (re_right L _)).kp (.here _ _))) j hjl
        cases e
        exact ⟨h1, h2.rd⟩
      have hnil := Lib.hid (fun h => InOk.empty hin h)
      have hnil2 := Lib.hid hin.nil
      have hfin := Lib.hid (NN.tail.kp (.there (.here _ _)))
      unfold inV at hc
      clear hq hT hWR hWn NN hin
      generalize f j = y at *
      obtain ⟨g, c, bs⟩ := y
      dsimp only at *
      obtain ⟨bl, hbl⟩ : ∃ bl, bs.length = bl := ⟨_, rfl⟩
      have hbl' := Lib.hid hbl
      rw [hbl] at hc hrow
      clear hbl
      by_cases hb : bl ≤ 1024
      · clear hfin
        obtain ⟨ml, hml⟩ : ∃ ml : Nat → Int, Hid (j < xl → ∃ bx ox, x = some ⟨bx, ox, none⟩ ∧ (∀ V L, SL V (L ++ [.old w no]) → V.cell? ⟨bx, ox + j, none⟩ = some (.int .u8 (ml 0))) ∧ 0 ≤ ml 0 ∧ ml 0 ≤ 255) := by
          refine ⟨fun _ => zs.getD j 0, Lib.hid fun h => ?_⟩
          rcases hx'.out.plain with h0 | ⟨bx, ox, e, h1, h2, h3, h4, h5, h6⟩
          · omega
          · refine ⟨bx, ox, e, fun V L hV => ?_, ?_⟩
            · exact ((hV.re (re_right L _)).kp (.here _ _)).cell (h5 j (by omega)) (fun h => h)
            · have hmem : zs.getD j 0 ∈ zs := by rw [List.getD_eq_getElem?_getD, List.getElem?_eq_getElem (by omega)]; exact List.getElem_mem _
              exact wf_u8 (h6 _ hmem)
        obtain ⟨C, hC⟩ : ∃ C, decide (j < xl) = C := ⟨_, rfl⟩
        go_upto_if 54 with (fail)
        have hC' := Lib.hid hC
        clear hc hC
        go_cut [13] from 55 to 60 (fun t V => ∃ m : Nat, m ≤ 3 ∧ t = .int .i64 m ∧ wr = V)
        case first =>
          cases C
          rotate_left
          · have hjx : j < xl := by have := of_decide_eq_true hC'.out; omega
            obtain ⟨bx, ox, rfl, hcx, hm1, hm2⟩ := hml.out hjx
            obtain ⟨t, q, hq, hT, hWR, hWn, NN⟩ := hR.out
            have hcx' := hcx _ [q] NN.tail
            clear hq hT hWR hWn NN hml hcx hR
            generalize ml 0 = z at *
            obtain ⟨m, hm⟩ : ∃ m : Nat, z % 4 = m := ⟨(z % 4).toNat, by omega⟩
            have hm3 : m ≤ 3 := by omega
            have htm : z.tmod 4 = (m : Int) := by rw [Int.tmod_eq_emod_of_nonneg hm1]; exact hm
            clear hm
            go_wp2_with fail
            go_meet
            case rel => exact ⟨m, hm3, rfl, rfl⟩
          · clear hml
            go_wp2_with fail
            go_meet
            case rel => exact ⟨0, by omega, rfl, rfl⟩
        case rest =>
        obtain ⟨many, hmany, rfl, rfl⟩ := hcut
        clear hml hC'
        have hR0 : Hid (∃ n W, OrdR p R j (10 * j + (0 : Nat)) n u11 W [.old w no] wr) := Lib.hid ⟨n, W, by rw [show (10 * (j : Int) + (0 : Nat)) = 10 * j by omega]; exact hR.out⟩
        clear hR
        go_wp2_with fail
        go_loopw [14, 11] (fun i v V => ∃ k : Nat, k ≤ many ∧ i = .int .i64 k ∧ Hid (∃ n W, OrdR p R j (10 * j + (k : Nat)) n v W [.old w no] V)) (fun i _ _ => many - (intOf i).toNat)
        case atStart => exact ⟨0, by omega, rfl, hR0⟩
        case round =>
          clear hR0
          obtain ⟨k, hk, rfl, hR⟩ := hrel
          by_cases hkm : k < many
          · obtain ⟨n, W, t, q, hq, hT, hWR, hWn, NN⟩ := hR.out
            clear hR hrow
            cases W with
            | nil =>
              have hd := Lib.hid (ord_none NN)
              obtain ⟨wa, wc2, rfl, -, -⟩ := hq.len
              have hrel2 := Lib.hid (fun nq => (show ∃ n W, OrdR p R j (10 * j + (k + 1 : Nat)) n (.slice wa 0 wc2) W [.old w no] (wr.drewN nq) from ⟨0, [], t, q, hq, hT.mono (by omega), by simp, rfl, NN.drewN nq⟩))
              rw [strs_length, List.length_nil]
              clear hq hT hWR hWn NN
              unfold ptrV at *
              go_wp2_with fail
              refine hd.out.mono ?_
              rintro e w5 ⟨rfl, rfl⟩
              clear hd
              go_wp2_with fail
              go_quiet (fail)
              have hrel3 := Lib.hid (hrel2.out nq)
              clear hrel2
              go_wp2_with fail
              go_roundw
              case rel => exact ⟨k + 1, by omega, by go_num, hrel3⟩
              case measure => (simp [intOf]; try omega)
            | cons y W =>
              have hd := Lib.hid (ord_some NN hT (by omega))
              have hqc : QAt 9 j u11 (.string (strOfNums y) :: strs W) q := hq
              obtain ⟨gq, oq, cq, rfl, hcq, hnext⟩ := hqc.next
              have hcell : Hid (∀ V, SL V (q :: [.old w no]) → V.cell? ⟨gq, oq, none⟩ = some (.string (strOfNums y))) := Lib.hid fun V hV => by
                obtain ⟨g', o', c', e, -, h⟩ := hq.cell hV (i := 0) (by simp [strs])
                cases e
                exact h
              have hrel2 := Lib.hid (fun t' V o' (ho : cq = 0 ∨ o' = oq + 1) (hT' : Tok (10 * j + (k : Nat) + 1) t') (h : NAt p (sO R t' W) (q :: [.old w no]) V) => (show ∃ n W', OrdR p R j (10 * j + (k + 1 : Nat)) n (.slice (some ⟨gq, o', none⟩) (strs W).length cq) W' [.old w no] V from ⟨W.length, W, t', q, hnext o' ho, hT'.mono (by omega), by simp at hWR; omega, rfl, h⟩))
              rw [strs_length] at hrel2 hcq ⊢
              obtain ⟨wl, hwl⟩ : ∃ wl, W.length = wl := ⟨_, rfl⟩
              have hwl2 : wl ≤ 256 := by simp at hWR; omega
              rw [hwl] at hrel2 hcq ⊢
              clear hq hT hWR hWn NN hnext hwl
              unfold ptrV at *
              go_wp2_with fail
              refine hd.out.mono ?_
              rintro e w5 ⟨⟨va, vn, vc⟩, t', rfl, NN, hT'⟩
              have hc0 := hcell.out _ NN.tail.tail
              have hst := fun m => gr_str (NN.drewN m).tail (.here _ _)
              have hN := Lib.hid NN
              have hT2 := Lib.hid hT'
              clear hd hcell NN hT'
              generalize strOfNums y = str at *
              unfold slV at *
              dsimp only at *
              have hq1 : 1 ≤ cq + 1 := by omega
              by_cases hc00 : cq = 0
              · subst hc00
                obtain rfl : wl = 0 := by omega
                go_wp2_with fail
                go_quiet (fail)
                have hrel3 := Lib.hid (hrel2.out t' _ oq (by simp) hT2.out (hN.out.re (.drop (.same _)) |>.drewN nq))
                clear hrel2 hN hc0 hst
                go_wp2_with fail
                go_roundw
                case rel => exact ⟨k + 1, by omega, by go_num, hrel3⟩
                case measure => (simp [intOf]; try omega)
              · go_wp2_with fail
                go_quiet (fail)
                have hrel3 := Lib.hid (hrel2.out t' _ (oq + 1) (.inr rfl) hT2.out (hN.out.re (.drop (.same _)) |>.drewN nq))
                clear hrel2 hN hc0 hst
                go_wp2_with fail
                go_roundw
                case rel => exact ⟨k + 1, by omega, by go_num, hrel3⟩
                case measure => (simp [intOf]; try omega)
          · obtain rfl : k = many := by omega
            obtain ⟨n, W, t, q, hq, hT, hWR, hWn, NN⟩ := hR.out
            obtain ⟨hc, -⟩ := hrow.out _ [q] NN.tail
            have hsn := Lib.hid (ord_send NN hT (by omega) g c bs (by rw [hbl'.out]; exact hb) (fun V h => ⟨(hrow.out V [q] h).2, hnil2.out⟩))
            rw [hbl'.out] at hsn
            obtain ⟨wa, wc2, rfl, hna, hnb⟩ := hq.len
            rw [strs_length, hWn]
            rw [strs_length, hWn] at hq
            have hq' := Lib.hid hq
            have hWn' := Lib.hid hWn
            have hWR2 : n ≤ R := by omega
            clear hR hq hT hWR hWn NN hna hnb
            unfold ptrV at *
            go_wp2_with fail
            refine hsn.out.mono ?_
            rintro e w5 ⟨t', rfl, NN, hT'⟩
            have hT2 : Hid (Tok (10 * ((j + 1 : Nat) : Int)) t') := Lib.hid (hT'.mono (by omega))
            clear hsn hT' hc
            unfold grow at NN
            rw [hWn'.out] at NN
            by_cases hlt : n < R
            · rw [if_pos hlt] at NN
              obtain ⟨hc, hrd⟩ := hrow.out _ [q] NN.tail
              have hst := run_str c hrd hnil.out
              rw [hbl'.out] at hst
              have NN2 := NN.alloc [.string (strOfNums bs)] 9
              have hcx := NN2.tail.cell (b := w5.heap.size) (o := 0) (.here _ _) rfl
              obtain ⟨v', w7, q', hrun, hq2, NN3⟩ := NAt.q_app (ty := 35) elemT hq'.out (NN2.re (.drop (.same _))) hcx rfl (by simp only [maxLen]; omega) (by omega)
              have hrel : Hid (OrdR p R (j + 1) (10 * ((j + 1 : Nat) : Int)) (n + 1) v' (W ++ [bs]) [.old w no] w7) := Lib.hid ⟨t', q', by rw [strs_app]; exact hq2, hT2.out, by simp [hWn'.out]; omega, by simp [hWn'.out], NN3⟩
              clear hq' hWn' hT2 NN NN2 hrd hcx hq2 NN3 hrow hnil hbl' hnil2
              generalize strOfNums bs = str at *
              go_wp2_with (at_builtin; refine wpList_run rfl _ _ _ rfl rfl rfl hrun ?_)
              go_roundw
              case rel => exact ⟨j + 1, n + 1, _, by omega, by go_num, hrel⟩
              case measure => (simp [intOf]; try omega)
            · rw [if_neg hlt] at NN
              have hrel : Hid (OrdR p R (j + 1) (10 * ((j + 1 : Nat) : Int)) n (.slice wa n wc2) W [.old w no] w5) := Lib.hid ⟨t', q, hq'.out.mono (by omega), hT2.out, by rw [hWn'.out]; exact hWR2, hWn'.out, NN⟩
              clear hq' hWn' hT2 NN hrow hnil hbl' hnil2
              go_wp2_with fail
              go_roundw
              case rel => exact ⟨j + 1, n, W, by omega, by go_num, hrel⟩
              case measure => (simp [intOf]; try omega)
      · go_wp2_with fail
        go_ret
        exact ⟨rfl, hfin.out⟩
    · obtain rfl : j = len := by omega
      obtain ⟨t, q, hq, hT, hWR, hWn, NN⟩ := hR.out
      obtain ⟨wa, wc2, rfl, hna, hnb⟩ := hq.len
      rw [strs_length, hWn]
      rw [strs_length, hWn] at hq
      have hq' := Lib.hid hq
      have hWn' := Lib.hid hWn
      have hT' := Lib.hid hT
      have hN := Lib.hid NN
      have hWR2 : n ≤ R := by omega
      obtain ⟨C, hC⟩ : ∃ C, decide (0 < n) = C := ⟨_, rfl⟩
      clear hR hq hT hWR hWn NN hna hnb
      unfold ptrV at *
      go_upto_if 117 with (fail)
      have hC' := Lib.hid hC
      clear hC
      go_cut [11] from 118 to 136 (fun v V => ∃ n W, Hid (OrdR p R (j + 1) (10 * j + 1) n v W [.old w no] V))
      case first =>
        cases C
        · go_wp2_with fail
          go_meet
          case rel => exact ⟨n, W, Lib.hid ⟨t, q, hq'.out.mono (by omega), hT'.out.mono (by omega), by rw [hWn'.out]; exact hWR2, hWn'.out, hN.out⟩⟩
        · have hn0 : 0 < n := of_decide_eq_true hC'.out
          obtain ⟨k, hk⟩ : ∃ k, n / 2 = k := ⟨_, rfl⟩
          have hkn : k < n := by omega
          have hdiv : (n : Int).tdiv 2 = (k : Int) := by rw [Int.tdiv_eq_ediv_of_nonneg (by omega)]; omega
          have hkW : k < W.length := by rw [hWn'.out]; exact hkn
          have hdb := Lib.hid (ord_double hN.out hT'.out (by omega) hkW)
          clear hC' hN hk hT'
          go_wp2_with fail
          refine hdb.out.mono ?_
          rintro e w5 ⟨t', rfl, NN, hT'⟩
          clear hdb
          unfold grow at NN
          rw [hWn'.out] at NN
          by_cases hlt : n < R
          · rw [if_pos hlt] at NN
            obtain ⟨gq, oq, cq, e1, hcq, hcell⟩ := hq'.out.cell NN.tail (i := k) (by rw [strs_length]; exact hkW)
            rw [strs_length, hWn'.out] at e1
            simp only [strs, List.getElem_map] at hcell
            cases e1
            have NN2 := NN.alloc [.string (strOfNums (W[k]'hkW))] 9
            have hcx := NN2.tail.cell (b := w5.heap.size) (o := 0) (.here _ _) rfl
            obtain ⟨v', w7, q', hrun, hq2, NN3⟩ := NAt.q_app (ty := 35) elemT hq'.out (NN2.re (.drop (.same _))) hcx rfl (by simp only [maxLen]; omega) (by omega)
            have hrel : Hid (OrdR p R (j + 1) (10 * j + 1) (n + 1) v' (W ++ [W[k]'hkW]) [.old w no] w7) := Lib.hid ⟨t', q', by rw [strs_app]; exact hq2, hT', by simp [hWn'.out]; omega, by simp [hWn'.out], NN3⟩
            clear hq' hWn' hT' NN NN2 hcx hq2 NN3
            generalize strOfNums (W[k]'hkW) = str at *
            generalize W ++ [W[k]'hkW] = W2 at *
            clear hkW
            go_wp2_with (at_builtin; refine wpList_run rfl _ _ _ rfl rfl rfl hrun ?_)
            go_meet
            case rel => exact ⟨_, _, hrel⟩
          · rw [if_neg hlt] at NN
            have hrel : Hid (OrdR p R (j + 1) (10 * j + 1) n (.slice wa n wc2) W [.old w no] w5) := Lib.hid ⟨t', q, hq'.out.mono (by omega), hT', by rw [hWn'.out]; exact hWR2, hWn'.out, NN⟩
            clear hq' hWn' hT' NN hkW
            go_wp2_with fail
            go_meet
            case rel => exact ⟨_, _, hrel⟩
      case rest =>
      clear hq' hWn' hT' hN hC' hWR2
      obtain ⟨n, W, hR⟩ := hcut
      obtain ⟨t, q, hq, hT, hWR, hWn, NN⟩ := hR.out
      obtain ⟨wa, wc2, rfl, hna, hnb⟩ := hq.len
      rw [strs_length, hWn]
      rw [strs_length, hWn] at hq
      have hq' := Lib.hid hq
      have hWn' := Lib.hid hWn
      have hT' := Lib.hid hT
      have hN := Lib.hid NN
      have hWR2 : n ≤ R := by omega
      clear hR hq hT hWR hWn NN hna hnb
      go_wp2_with fail
      go_loopw [139] (fun i V => ∃ m : Nat, m ≤ n ∧ i = .int .i64 m ∧ Hid (∃ t, Tok (10 * j + 1 + (m : Nat)) t ∧ NAt p (sO R t (W.drop m)) [q, .old w no] V)) (fun i _ => n - (intOf i).toNat)
      case atStart => exact ⟨0, by omega, rfl, Lib.hid ⟨t, hT'.out.mono (by omega), hN.out⟩⟩
      case round =>
        clear hN hT'
        obtain ⟨m, hm, rfl, hR⟩ := hrel
        by_cases hmn : m < n
        · have hmW : m < W.length := by rw [hWn'.out]; exact hmn
          obtain ⟨t, hT, NN⟩ := hR.out
          rw [List.drop_eq_getElem_cons hmW] at NN
          have hd := Lib.hid (ord_some NN hT (by omega))
          clear hR hT NN
          go_wp2_with fail
          refine hd.out.mono ?_
          rintro e w5 ⟨⟨va, vn, vc⟩, t', rfl, NN, hT'⟩
          clear hd
          obtain ⟨gq, oq, cq, e1, hcq, hcell⟩ := hq'.out.cell (NN.tail.pull (.there (.here _ _))) (i := m) (by rw [strs_length]; exact hmW)
          rw [strs_length, hWn'.out] at e1
          simp only [strs, List.getElem_map] at hcell
          cases e1
          have hst := fun m => gr_str (NN.drewN m).tail (.here _ _)
          have hN := Lib.hid (fun x => (show ∃ t, Tok (10 * j + 1 + (m + 1 : Nat)) t ∧ NAt p (sO R t (W.drop (m + 1))) [q, .old w no] (w5.drewN x) from ⟨t', hT'.mono (by omega), (NN.re (.drop (.same _))).drewN x⟩))
          clear NN hT'
          rw [strs_length, hWn'.out] at hcq
          dsimp only at hst
          generalize strOfNums (W[m]'hmW) = str at *
          clear hmW
          unfold slV at *
          dsimp only at *
          go_wp2_with fail
          go_quiet (fail)
          have hN2 := Lib.hid (hN.out nq)
          clear hN hcell hst
          go_wp2_with fail
          go_roundw
          case rel => exact ⟨m + 1, by omega, by go_num, hN2⟩
          case measure => (simp [intOf]; try omega)
        · obtain rfl : m = n := by omega
          obtain ⟨t, hT, NN⟩ := hR.out
          rw [List.drop_of_length_le (by rw [hWn'.out]; exact Nat.le_refl _)] at NN
          have ha := Lib.hid (ord_all NN)
          clear hR NN hT
          go_wp2_with fail
          refine ha.out.mono ?_
          rintro e w5 ⟨rfl, NN⟩
          have hfin := Lib.hid (NN.tail.kp (.there (.here _ _)))
          clear NN ha
          go_wp2_with fail
          go_ret
          exact ⟨rfl, hfin.out⟩
end Go.Proofs.Ytnkahibddhchlaa
