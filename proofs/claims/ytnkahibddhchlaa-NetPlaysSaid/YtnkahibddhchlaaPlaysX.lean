/- The walk of NetPlays. -/
import Derived.Test.YtnkahibddhchlaaPlaysL
import Derived.Deep.CutBlock
import Derived.Deep.CutRange
namespace Go.Proofs.Ytnkahibddhchlaa
open Go.RowKit
set_option linter.unusedVariables false

set_option maxRecDepth 100000 in
set_option maxHeartbeats 8000000 in
theorem plays_c (n room : Int) (a : Option Addr) (len cap : Nat) (f : Nat → OpI) (w : World) (hf : RdOps w a len f) (hl : len ≤ 9223372036854775807) (hlc : len ≤ cap) :
    Calls Try.prog 7 #[.int .i64 n, .int .i64 room, .slice a len cap] w fun e w' => e = .returned (.bool true) ∧ Kp no w w' := by
  have hf' := Lib.hid hf
  have hH := Lib.hid (SL.start w)
  have hg := Lib.hid (great_c a len cap f w hl hf)
  clear hf hl
  go_enter Try.func7, Try.ntmps7
  go_wp2_with fail
  refine hg.out.mono ?_
  rintro e w2 ⟨r, rfl, rfl, hr⟩
  clear hg
  have hk1 := Lib.hid (hH.out.kp (.here _ _))
  cases r
  rotate_left
  · clear hr
    go_wp2_with fail
    go_ret
    exact ⟨rfl, hk1.out⟩
  obtain ⟨hl300, hbyte⟩ := hr rfl
  have hbyte' := Lib.hid hbyte
  clear hr hbyte
  by_cases hv : 1 ≤ n ∧ n ≤ 64 ∧ 1 ≤ room ∧ room ≤ 256
  rotate_left
  · have hnew := Lib.hid (fun V => new_no n room (by omega) V)
    have hnew2 := Lib.hid (fun V => rnew_no n room (by omega) V)
    clear hH hv
    go_wp2_with fail
    refine (hnew.out _).mono ?_
    rintro e w3 ⟨rfl, rfl⟩
    go_wp2_with fail
    refine (hnew2.out _).mono ?_
    rintro e w3 ⟨rfl, rfl⟩
    go_wp2_with fail
    go_ret
    exact ⟨rfl, hk1.out⟩
  obtain ⟨hv1, hv2, hv3, hv4⟩ := hv
  obtain ⟨N, rfl⟩ : ∃ N : Nat, n = N := ⟨n.toNat, by omega⟩
  obtain ⟨R, rfl⟩ : ∃ R : Nat, room = R := ⟨room.toNat, by omega⟩
  have hnew := Lib.hid (new_at N R (by omega) (by omega) (by omega) (by omega) hH.out)
  clear hH hk1
  go_wp2_with fail
  refine hnew.out.mono ?_
  rintro e w3 ⟨p, rfl, NN⟩
  have hnew2 : Hid (Calls _ _ _ _ _) := Lib.hid (b_new NN (by dsimp only; omega) (by dsimp only; omega) (by dsimp only; omega) (by dsimp only; omega) rfl (fun _ => rfl))
  dsimp only at hnew2
  clear hnew NN
  unfold ptrV at *
  go_wp2_with fail
  refine hnew2.out.mono ?_
  rintro e w4 ⟨y, rfl, H4⟩
  have hB : Hid (PlR p y N R 0 [.old w no] w4) := Lib.hid ⟨_, H4, Tok.zero _ (by omega), by
    unfold Cons
    have : allF N (fun _ => ([] : List (List Int))) = 0 := by unfold allF; rw [show heldK N (fun _ => []) = [] from List.filter_eq_nil_iff.2 (by simp)]; rfl
    dsimp only [t0]
    rw [this]
    rfl, rfl, rfl⟩
  clear hnew2 H4 hv1 hv2 hv3 hv4
  unfold ptrV at *
  go_wp2_with fail
  go_loopw [48, 7] (fun i x V => ∃ (k p' : Nat), k ≤ len ∧ i = .int .i64 k ∧ x = ptrV p' ∧ Hid (PlR p' y N R (k * 1100000) [.old w no] V)) (fun i _ _ => len - (intOf i).toNat)
  case atStart => exact ⟨0, p, by omega, rfl, rfl, hB⟩
  case round =>
    clear hB
    obtain ⟨k, p', hk, rfl, rfl, hR⟩ := hrel
    by_cases hkl : k < len
    · obtain ⟨s, NN, hT, hC, hsn, hsr⟩ := hR.out
      have hT9 : Tok 900000000 s.t := hT.mono (by omega)
      obtain ⟨b, o, rfl, hop⟩ := (hf'.out.no (NN.tail.kp (.here _ _))).at hkl
      have hop2 : ∀ V, SL V [.old w no] → OpOk V (f k) := fun V h => by
        obtain ⟨b', o', e, h2⟩ := (hf'.out.no (h.kp (.here _ _))).at hkl
        exact h2.2
      obtain ⟨c0, c1, c2, c3, c4, c5⟩ := hop.cells
      have hp := Lib.hid (do_c NN hT9 (f k) hop2 (hbyte'.out k hkl))
      have hok := Lib.hid (b_play_ok NN hT hC (f k))
      have hsn' := Lib.hid hsn
      have hsr' := Lib.hid hsr
      have hcap1 : k + 1 ≤ cap := by omega
      have hkc : ¬ cap = k := by omega
      unfold opV inV at hp
      clear NN hT hC hT9 hop hop2 hR hsn hsr
      unfold ptrV at *
      go_wp2_with fail
      refine hp.out.mono ?_
      rintro e w5 ⟨p2, rfl, H5⟩
      have hfin : Hid (PlR p2 y N R ((k + 1 : Nat) * 1100000) [.old w no] w5) := Lib.hid ⟨_, H5, hok.out.1.mono (by omega), hok.out.2.1, by rw [hok.out.2.2.1, hsn'.out], by rw [hok.out.2.2.2, hsr'.out]⟩
      clear hp H5 hok hsn' hsr'
      unfold ptrV at *
      go_wp2_with fail
      go_roundw
      case rel => exact ⟨k + 1, p2, by omega, by go_num, rfl, hfin.out⟩
      case measure => (simp [intOf]; try omega)
    · obtain rfl : k = len := by omega
      obtain ⟨s, NN, hT, hC, hsn, hsr⟩ := hR.out
      have hsum := Lib.hid (sum_c NN)
      have hT4 := Lib.hid (hT.mono (show _ ≤ (400000000 : Int) by omega))
      clear NN hT hC hR hsn hsr hf' hbyte'
      unfold ptrV at *
      go_wp2_with fail
      refine hsum.out.mono ?_
      rintro e w5 ⟨rfl, NN⟩
      have hA := NN.all
      have h64 := NN.n64
      have hw := Lib.hid (NN.lift2 (α := Option Addr × Nat) (P := fun x e => e = .returned (.slice x.1 (heldK s.n s.F).length x.2)) (S := fun _ => s) (X := fun x => [.own 42 2 (.slice x.1 (heldK s.n s.F).length x.2) (heldK s.n s.F).length (kyC (heldK s.n s.F))]) fun L' h => (rf_ways h hA h64).mono fun e w' ⟨a, c, h1, h2⟩ => ⟨(a, c), h1, h2⟩)
      have hmem : Hid (∀ k, s.F k ≠ [] → k ∈ heldK s.n s.F) := Lib.hid (by obtain ⟨N', hN', h⟩ := NN; exact held_mem h)
      have hkey := Lib.hid (held_key (n := s.n) (F := s.F))
      have hKl := heldK_len s.n s.F
      have hK4 : s.n * s.n ≤ 64 * 64 := Nat.mul_le_mul h64 h64
      have hT6 : Hid (Tok (600000000 - (allF s.n s.F : Nat)) s.t) := Lib.hid (hT4.out.mono (by omega))
      obtain ⟨K, hK⟩ : ∃ K, heldK s.n s.F = K := ⟨_, rfl⟩
      rw [hK] at hw hmem hkey hKl
      obtain ⟨M, hM⟩ : ∃ M, K.length = M := ⟨_, rfl⟩
      have hM' := Lib.hid hM
      rw [hM] at hw hKl
      have hMl : M ≤ 4096 := by omega
      clear hsum NN hA h64 hT4 hK hM hKl hK4
      unfold ptrV at *
      go_wp2_with fail
      refine hw.out.mono ?_
      rintro e w6 ⟨⟨wa, wc⟩, rfl, H6⟩
      have hD : Hid (DlR p' y (K.drop 0) s.n ([.own 42 2 (.slice wa M wc) M (kyC K)] ++ [.old w no]) w6) := Lib.hid ⟨s, H6, hT6.out, rfl, hmem.out⟩
      clear hw H6 hT6 hmem
      generalize s.n = N' at *
      dsimp only at *
      unfold ptrV at *
      go_wp2_with fail
      go_loopw [72] (fun i V => ∃ j : Nat, j ≤ M ∧ i = .int .i64 j ∧ Hid (DlR p' y (K.drop j) N' ([.own 42 2 (.slice wa M wc) M (kyC K)] ++ [.old w no]) V)) (fun i _ => M - (intOf i).toNat)
      case atStart => exact ⟨0, by omega, rfl, hD⟩
      case round =>
        clear hD
        obtain ⟨j, hj, rfl, hR⟩ := hrel
        by_cases hjM : j < M
        · have hjK : j < K.length := by rw [hM'.out]; exact hjM
          obtain ⟨s2, H, hT, hsn, hin⟩ := hR.out
          obtain ⟨g, rfl, k0, k1⟩ := wayK H.tail (.here _ _) hM'.out j hjK
          have hkj := hkey.out _ (List.getElem_mem hjK)
          have hdrop : Hid (∀ k, k ∈ K.drop j → k ≠ K[j]'hjK → k ∈ K.drop (j + 1)) := Lib.hid (by
            intro k h1 h2
            rw [List.drop_eq_getElem_cons hjK] at h1
            rcases List.mem_cons.1 h1 with h | h
            · exact absurd h h2
            · exact h)
          have hD := Lib.hid (show DlR p' y (K.drop j) N' _ _ from ⟨s2, H.alloc [.int .i64 (K[j]'hjK).1, .int .i64 (K[j]'hjK).2] 42, hT, hsn, hin⟩)
          clear H hT hsn hin hR
          generalize K[j]'hjK = kk at *
          obtain ⟨k0', k1'⟩ := kk
          dsimp only at *
          go_wp2_with fail
          generalize wr.alloc (.cells [Value.int .i64 k0', .int .i64 k1'].toArray 42) = w7 at *
          generalize wr.heap.size = kb at *
          clear k0 k1
          go_loopw [16] (fun i V => Hid (DlR p' y (K.drop j) N' (.blk kb [.int .i64 k0', .int .i64 k1'] 42 :: ([.own 42 2 (.slice (some ⟨g, 0, none⟩) M wc) M (kyC K)] ++ [.old w no])) V)) (fun _ V => lenAt y V)
          case atStart => exact hD
          case round =>
            clear hD
            have hR := hrel
            clear hrel
            obtain ⟨s2, H, hT, hsn, hin⟩ := hR.out
            have c0 := H.tail.cell (b := kb) (o := 0) (.here _ _) rfl
            have c1 := H.tail.cell (b := kb) (o := 1) (.here _ _) rfl
            have hl := Lib.hid (b_len2 H k0' k1')
            have hH := Lib.hid H
            have hT := Lib.hid hT
            have hin := Lib.hid hin
            obtain ⟨q, hq⟩ : ∃ q, (s2.F (k0', k1')).length = q := ⟨_, rfl⟩
            have hq' := Lib.hid hq
            rw [hq] at hl
            clear H hR hq
            by_cases hq0 : q = 0
            · subst hq0
              have hfin : Hid (∀ V, Bth p' s2 y s2 (.blk kb [.int .i64 k0', .int .i64 k1'] 42 :: ([.own 42 2 (.slice (some ⟨g, 0, none⟩) M wc) M (kyC K)] ++ [.old w no])) V → DlR p' y (K.drop (j + 1)) N' ([.own 42 2 (.slice (some ⟨g, 0, none⟩) M wc) M (kyC K)] ++ [.old w no]) V) := Lib.hid fun V h => ⟨s2, h.re (.drop (.same _)), hT.out, hsn, fun k hk => hdrop.out k (hin.out k hk) (fun e => by subst e; exact hk (List.length_eq_zero_iff.1 hq'.out))⟩
              clear hH hT hin hdrop hq' hsn
              unfold ptrV at *
              go_wp2_with fail
              refine hl.out.mono ?_
              rintro e w8 ⟨rfl, H8⟩
              have hfin2 := Lib.hid (hfin.out _ H8)
              clear hl H8 hfin
              go_wp2_with fail
              go_roundw
              case rel => exact ⟨j + 1, by omega, by go_num, hfin2.out⟩
              case measure => (simp [intOf]; try omega)
            · have hne : s2.F (k0', k1') ≠ [] := fun e => hq0 (by rw [← hq'.out, e]; rfl)
              have hT9 : Tok 900000000 s2.t := hT.out.mono (by omega)
              have h1 : (0 ≤ k0' ∧ k0' < (s2.n : Int)) := by rw [hsn]; exact hkj.1
              have h2 : (0 ≤ k1' ∧ k1' < (s2.n : Int)) := by rw [hsn]; exact hkj.2
              have hA := hH.out.all
              have hd1 := Lib.hid (fun V L (h : Bth p' s2 y s2 L V) => b_dl1 h hT9 (k := (k0', k1')) h1 h2 hne)
              have hd2 := Lib.hid (fun V L s3 (h : Bth p' s3 y s2 L V) => b_dl2 h hA hT9 (k := (k0', k1')) hne)
              have hme : Hid (∀ V V' L L', Bth p' s2 y s2 L V → Bth p' (s2.dl (k0', k1')) y (s2.dl (k0', k1')) L' V' → lenAt y V' < lenAt y V) := Lib.hid fun V V' L L' g1 g2 => by
                rw [g1.lenAt, g2.lenAt]
                have h := allF_upd s2.F (k := (k0', k1')) h1 h2 ((s2.F (k0', k1')).eraseIdx 0)
                have hl := List.length_pos_iff.2 hne
                rw [List.length_eraseIdx_of_lt hl] at h
                have e : allF (s2.dl (k0', k1')).n (s2.dl (k0', k1')).F = allF s2.n (upd s2.F (k0', k1') ((s2.F (k0', k1')).eraseIdx 0)) := rfl
                rw [e]
                omega
              have hrel2 : Hid (∀ V L', Bth p' (s2.dl (k0', k1')) y (s2.dl (k0', k1')) L' V → DlR p' y (K.drop j) N' L' V) := Lib.hid fun V L' h => ⟨_, h, dl_tok (k := (k0', k1')) h1 h2 hne hT.out, hsn, dl_only hin.out⟩
              clear hT hin hdrop hq' hsn hne hT9 h1 h2 hA
              dsimp only at hd1 hd2
              have hq1 : (0 : Int) < (q : Int) := by omega
              unfold ptrV at *
              go_wp2_with fail
              refine hl.out.mono ?_
              rintro e w8 ⟨rfl, H8⟩
              have c2 := H8.tail.cell (b := kb) (o := 0) (.here _ _) rfl
              have c3 := H8.tail.cell (b := kb) (o := 1) (.here _ _) rfl
              have hme := Lib.hid (fun V' L' h => hme.out _ V' _ L' hH.out h)
              have hd1 := Lib.hid (hd1.out _ _ H8)
              clear hl H8 c0 c1 hH
              go_wp2_with fail
              refine hd1.out.mono ?_
              rintro e w9 ⟨v, rfl, H9⟩
              have c0 := H9.tail.cell (b := kb) (o := 0) (.there (.here _ _)) rfl
              have c1 := H9.tail.cell (b := kb) (o := 1) (.there (.here _ _)) rfl
              have hd2 := Lib.hid (hd2.out _ _ _ H9)
              clear hd1 H9 c2 c3
              unfold slV at *
              go_wp2_with fail
              refine hd2.out.mono ?_
              rintro e w10 ⟨v2, rfl, H10⟩
              have hfin2 := Lib.hid (hrel2.out _ _ (H10.re (.drop (.drop (.same _)))))
              have hme2 := Lib.hid (hme.out _ _ H10)
              have s1 := gr_str H10.tail (.there (.here _ _))
              have s2' := gr_str H10.tail (.here _ _)
              dsimp only [slV] at s1 s2'
              generalize strOfNums (s2.the k0' k1' 0) = str at *
              clear hd2 H10 hrel2 hme c0 c1
              unfold slV at *
              go_wp2_with fail
              exact ⟨hfin2.out, hme2.out⟩
        · obtain rfl : j = M := by omega
          obtain ⟨s2, H, hT, hsn, hin⟩ := hR.out
          rw [← hM'.out, List.drop_length] at hin
          have hz := allF_nil (n := s2.n) hin
          have hs := Lib.hid (sum_c H)
          have hal := Lib.hid (fun V L (h : NAt p' s2 L V) => all_c h)
          rw [hz] at hal
          clear hR H hT hsn hin hz hM' hkey
          unfold ptrV at *
          go_wp2_with fail
          refine hs.out.mono ?_
          rintro e w8 ⟨rfl, N2, hN2, H8⟩
          have hal := Lib.hid (hal.out _ _ H8)
          clear hs H8 hN2
          go_wp2_with fail
          refine hal.out.mono ?_
          rintro e w9 ⟨rfl, H9⟩
          have hfin := Lib.hid ((H9.tail.re (re_right N2 _)).kp (.there (.here _ _)))
          clear hal H9
          go_wp2_with fail
          go_ret
          exact ⟨rfl, hfin.out⟩
end Go.Proofs.Ytnkahibddhchlaa
