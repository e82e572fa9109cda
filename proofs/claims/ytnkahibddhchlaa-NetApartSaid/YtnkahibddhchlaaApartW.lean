/- The walk of NetApart. -/
import Derived.Test.YtnkahibddhchlaaApartL
import Derived.Test.YtnkahibddhchlaaCountsW
import Derived.Deep.CutBlock
import Derived.Deep.CutRange
namespace Go.Proofs.Ytnkahibddhchlaa
open Go.RowKit
set_option linter.unusedVariables false

def ApR (p q : Nat) (n r : Nat) (way : Ky) (k : Nat) (L : List Pc) (V : World) : Prop := ∃ s s2, TwoN p s q s2 L V ∧ (Tok (k * 1100000) s.t ∧ Cons s ∧ s.n = n ∧ s.room = r) ∧ (Tok (k * 1100000) s2.t ∧ Cons s2 ∧ s2.n = n ∧ s2.room = r) ∧ s.F way = s2.F way

theorem cons0 (n r : Nat) : Cons ⟨n, r, t0, fun _ => []⟩ := by
  unfold Cons
  have : allF n (fun _ => ([] : List (List Int))) = 0 := by unfold allF; rw [show heldK n (fun _ => []) = [] from List.filter_eq_nil_iff.2 (by simp)]; rfl
  dsimp only [t0]
  rw [this]
  rfl

set_option maxRecDepth 100000 in
set_option maxHeartbeats 8000000 in
theorem apart_c (n room : Int) (a : Option Addr) (len cap : Nat) (f : Nat → OpI) (w0 w1 : Int) (w : World) (hw0 : okI w0) (hw1 : okI w1) (hf : RdOps w a len f) (hl : len ≤ 9223372036854775807) (hlc : len ≤ cap) :
    Calls Try.prog 5 #[.int .i64 n, .int .i64 room, .slice a len cap, .agg #[.int .i64 w0, .int .i64 w1]] w fun e w' => e = .returned (.bool true) ∧ Kp no w w' := by
  have hal := Lib.hid (fun V (h : SL V [.blk w.heap.size [.int .i64 w0, .int .i64 w1] 42, .old w no]) => alive_c h)
  have hf' := Lib.hid hf
  have hgr := Lib.hid (fun V (h : SL V [.blk w.heap.size [.int .i64 w0, .int .i64 w1] 42, .old w no]) => great_c a len cap f V hl (hf.no (h.kp (.there (.here _ _)))))
  have hH := Lib.hid ((SL.start w).alloc [.int .i64 w0, .int .i64 w1] 42)
  have hw0' := Lib.hid hw0
  have hw1' := Lib.hid hw1
  clear hf hl hw0 hw1
  go_enter Try.func5, Try.ntmps5
  go_wp2_with fail
  have hal2 := hal.out _ hH.out
  clear hal hH
  generalize w.heap.size = wb at *
  refine hal2.mono ?_
  rintro e w1x ⟨rfl, H1⟩
  have hH := Lib.hid H1
  have hg := Lib.hid (hgr.out _ H1)
  clear hal2 H1 hgr
  go_wp2_with fail
  refine hg.out.mono ?_
  rintro e w2 ⟨r, rfl, rfl, hr⟩
  clear hg
  have hk1 := Lib.hid (hH.out.kp (.there (.here _ _)))
  cases r
  · obtain ⟨hl300, hbyte⟩ := hr rfl
    clear hr hbyte
    by_cases hv : 1 ≤ n ∧ n ≤ 64 ∧ 1 ≤ room ∧ room ≤ 256
    · obtain ⟨hv1, hv2, hv3, hv4⟩ := hv
      obtain ⟨N, rfl⟩ : ∃ N : Nat, n = N := ⟨n.toNat, by omega⟩
      obtain ⟨R, rfl⟩ : ∃ R : Nat, room = R := ⟨room.toNat, by omega⟩
      have hnew := Lib.hid (new_at N R (by omega) (by omega) (by omega) (by omega) hH.out)
      clear hH
      go_wp2_with fail
      refine hnew.out.mono ?_
      rintro e w3 ⟨p, rfl, NN⟩
      have hnew2 := Lib.hid (TwoN.new NN N R (by omega) (by omega) (by omega) (by omega))
      clear hnew NN
      unfold ptrV
      go_wp2_with fail
      refine hnew2.out.mono ?_
      rintro e w4 ⟨q, rfl, NN⟩
      have hN := Lib.hid NN
      clear hnew2 NN hk1
      unfold ptrV
      go_wp2_with fail
      go_loopw [55] (fun i V => ∃ k : Nat, k ≤ len ∧ i = .int .i64 k ∧ Hid (ApR p q N R (w0, w1) k [.blk wb [.int .i64 w0, .int .i64 w1] 42, .old w no] V)) (fun i _ => len - (intOf i).toNat)
      case atStart => exact ⟨0, by omega, rfl, Lib.hid ⟨_, _, hN.out, ⟨Tok.zero _ (by omega), cons0 _ _, rfl, rfl⟩, ⟨Tok.zero _ (by omega), cons0 _ _, rfl, rfl⟩, rfl⟩⟩
      case round =>
        clear hN
        obtain ⟨k, hk, rfl, hR⟩ := hrel
        by_cases hkl : k < len
        · obtain ⟨s, s2, NN, ⟨hT, hC, hsn, hsr⟩, ⟨hT2, hC2, hsn2, hsr2⟩, hway⟩ := hR.out
          have hT9 : Tok 1000000000 s.t := hT.mono (by omega)
          obtain ⟨b, o, rfl, -⟩ := (hf'.out.no (NN.tail.kp (.there (.here _ _)))).at hkl
          have hop : ∀ V, SL V [.blk wb [.int .i64 w0, .int .i64 w1] 42, .old w no] → OpAt V b (o + k * 6) (f k) := fun V h => by
            obtain ⟨b', o', e, h2⟩ := (hf'.out.no (h.kp (.there (.here _ _)))).at hkl
            cases e
            exact h2
          have hp := Lib.hid (fun c => NN.play1 (c := c) hT9 hop)
          have hop' := Lib.hid hop
          obtain ⟨ok1, ok2, ok3, ok4⟩ := NN.ok1 hT hC (f k)
          obtain ⟨ok1', ok2', ok3', ok4'⟩ := NN.swap.ok1 hT2 hC2 (f k)
          have hT9' : Tok 1000000000 s2.t := hT2.mono (by omega)
          have hp2 := Lib.hid (fun V (h : TwoN p (s.play (f k)) q s2 [.blk wb [.int .i64 w0, .int .i64 w1] 42, .old w no] V) c => h.play2 (c := c) hT9' hop)
          have hrelN := Lib.hid (fun (ho : ¬ ((f k).dst = w1 ∧ ((f k).fr = w0 ∨ (f k).kind = 5))) V (h : TwoN p (s.play (f k)) q s2 [.blk wb [.int .i64 w0, .int .i64 w1] 42, .old w no] V) => (show ApR p q N R (w0, w1) (k + 1) _ V from
            ⟨_, _, h, ⟨ok1.mono (by omega), ok2, ok3.trans hsn, ok4.trans hsr⟩, ⟨hT2.mono (by omega), hC2, hsn2, hsr2⟩, (play_other _ _ ho).trans hway⟩))
          have hrelY := Lib.hid (fun V (h : TwoN p (s.play (f k)) q (s2.play (f k)) [.blk wb [.int .i64 w0, .int .i64 w1] 42, .old w no] V) => (show ApR p q N R (w0, w1) (k + 1) _ V from
            ⟨_, _, h, ⟨ok1.mono (by omega), ok2, ok3.trans hsn, ok4.trans hsr⟩, ⟨ok1'.mono (by omega), ok2', ok3'.trans hsn2, ok4'.trans hsr2⟩, play_same (hsn.trans hsn2.symm) (hsr.trans hsr2.symm) _ hway⟩))
          have hcap1 : k + 1 ≤ cap := by omega
          have hkc : ¬ cap = k := by omega
          generalize s.play (f k) = s3 at *
          generalize s2.play (f k) = s4 at *
          clear NN hT hC hT9 hop hR hsn hsr hT2 hC2 hsn2 hsr2 hway hT9' ok1 ok2 ok3 ok4 ok1' ok2' ok3' ok4'
          unfold ptrV at *
          go_wp2_with fail
          refine (hp.out _).mono ?_
          rintro e w5 ⟨⟨v, rfl⟩, NN⟩
          clear hp
          obtain ⟨c0, c1, c2, c3, c4, c5⟩ := (hop'.out _ NN.tail).cells
          have y0 := NN.tail.cell (b := wb) (o := 0) (.here _ _) rfl
          have y1 := NN.tail.cell (b := wb) (o := 1) (.here _ _) rfl
          have hN := Lib.hid NN
          clear NN c3 c4 c5
          generalize (f k).kind = kind at *
          generalize (f k).fr = fr at *
          generalize (f k).dst = dst at *
          by_cases hd : dst = w1
          · have hdb : (dst == w1) = true := by simpa using hd
            by_cases hfr : fr = w0
            · have hfb : (fr == w0) = true := by simpa using hfr
              clear hrelN hd hfr
              go_wp2_with fail
              go_quiet (fail)
              have hp3 := Lib.hid (fun c => hp2.out _ (hN.out.drewN nq) c)
              clear hp2 hN c0 c1 c2 y0 y1
              go_wp2_with fail
              refine (hp3.out _).mono ?_
              rintro e w6 ⟨⟨v, rfl⟩, NN⟩
              have hfin := Lib.hid (hrelY.out _ NN)
              clear hp3 NN hrelY
              go_wp2_with fail
              go_roundw
              case rel => exact ⟨k + 1, by omega, by go_num, hfin⟩
              case measure => (simp [intOf]; try omega)
            · have hfb : (fr == w0) = false := by simpa using hfr
              by_cases h5 : kind = 5
              · have h5b : (kind == 5) = true := by simpa using h5
                clear hrelN hd hfr h5
                go_wp2_with fail
                go_quiet (fail)
                have hp3 := Lib.hid (fun c => hp2.out _ (hN.out.drewN nq) c)
                clear hp2 hN c0 c1 c2 y0 y1
                go_wp2_with fail
                refine (hp3.out _).mono ?_
                rintro e w6 ⟨⟨v, rfl⟩, NN⟩
                have hfin := Lib.hid (hrelY.out _ NN)
                clear hp3 NN hrelY
                go_wp2_with fail
                go_roundw
                case rel => exact ⟨k + 1, by omega, by go_num, hfin⟩
                case measure => (simp [intOf]; try omega)
              · have h5b : (kind == 5) = false := by simpa using h5
                have hfin := Lib.hid (fun m => hrelN.out (fun h => h.2.elim hfr h5) _ (hN.out.drewN m))
                clear hrelN hd hfr h5 hp2 hrelY hN
                go_wp2_with fail
                go_quiet (fail)
                have hfin2 := Lib.hid (hfin.out nq)
                clear hfin
                go_wp2_with fail
                go_roundw
                case rel => exact ⟨k + 1, by omega, by go_num, hfin2⟩
                case measure => (simp [intOf]; try omega)
          · have hdb : (dst == w1) = false := by simpa using hd
            have hfin := Lib.hid (fun m => hrelN.out (fun h => hd h.1) _ (hN.out.drewN m))
            clear hrelN hd hp2 hrelY hN
            go_wp2_with fail
            go_quiet (fail)
            have hfin2 := Lib.hid (hfin.out nq)
            clear hfin
            go_wp2_with fail
            go_roundw
            case rel => exact ⟨k + 1, by omega, by go_num, hfin2⟩
            case measure => (simp [intOf]; try omega)
        · obtain rfl : k = len := by omega
          obtain ⟨s, s2, NN, -, -, hway⟩ := hR.out
          obtain ⟨M, hM⟩ : ∃ M, (s.F (w0, w1)).length = M := ⟨_, rfl⟩
          have hMl : M ≤ 256 := by have := NN.len (w0, w1); omega
          have hM2 : (s2.F (w0, w1)).length = M := by rw [← hway]; exact hM
          have hhas := Lib.hid (fun j (hj : j < M) => (show s.has w0 w1 (j : Nat) = true ∧ s2.has w0 w1 (j : Nat) = true ∧ s2.the w0 w1 (j : Nat) = s.the w0 w1 (j : Nat) from
            ⟨decide_eq_true (by rw [hM]; omega), decide_eq_true (by rw [hM2]; omega), by unfold NSt.the; rw [hway]⟩))
          have hLn := Lib.hid (fun V L (h : TwoN p s q s2 L V) => h.len1 w0 w1)
          have hLn2 := Lib.hid (fun V L (h : TwoN p s q s2 L V) => h.len2 w0 w1)
          rw [hM] at hLn
          rw [hM2] at hLn2
          have hH := Lib.hid NN
          clear hR NN hway hM hM2
          unfold ptrV at *
          go_wp2_with fail
          refine wp_region_held_drew (S := (fun W => W.cell? ⟨wb, 0, none⟩ = some (.int .i64 w0) ∧ W.cell? ⟨wb, 1, none⟩ = some (.int .i64 w1))) (by kernel_rfl) ?_ (fun hHeld => ?_)
          · have H := hH.out.drew
            exact ⟨H.tail.cell (b := wb) (o := 0) (.here _ _) rfl, H.tail.cell (b := wb) (o := 1) (.here _ _) rfl⟩
          have H := hH.out.drew
          generalize World.drew wr = w6 at *
          clear hH
          refine takeL (i := 0) rfl (by kernel_rfl) (by kernel_rfl) (by kernel_rfl) (fun _ _ _ _ h => h) hHeld ?_ (Or.inl ⟨by rfl, ?_⟩) ?_
          rotate_left
          · intro W hW
            (try dsimp only at hW)
            first | (go_simp; done) | (go_simp; with_reducible rfl)
          ((try simp only [Act.put]); (try simp only [List.setIfInBounds_toArray]); (try simp only [List.set_cons_succ]); (try simp only [List.set_cons_zero]))
          refine takeL (i := 1) rfl (by kernel_rfl) (by kernel_rfl) (by kernel_rfl) (fun _ _ _ _ h => h) hHeld ?_ (Or.inl ⟨by rfl, ?_⟩) ?_
          rotate_left
          · intro W hW
            (try dsimp only at hW)
            first | (go_simp; done) | (go_simp; with_reducible rfl)
          ((try simp only [Act.put]); (try simp only [List.setIfInBounds_toArray]); (try simp only [List.set_cons_succ]); (try simp only [List.set_cons_zero]))
          refine takeL (i := 2) rfl (by kernel_rfl) (by kernel_rfl) (by kernel_rfl) (fun _ _ _ _ h => h) hHeld ?_ (Or.inl ⟨by rfl, ?_⟩) ?_
          rotate_left
          · intro W hW
            (try dsimp only at hW)
            first | (go_simp; done) | (go_simp; with_reducible rfl)
          ((try simp only [Act.put]); (try simp only [List.setIfInBounds_toArray]); (try simp only [List.set_cons_succ]); (try simp only [List.set_cons_zero]))
          refine takeL (i := 3) rfl (by kernel_rfl) (by kernel_rfl) (by kernel_rfl) (fun _ _ _ _ h => h) hHeld ?_ (Or.inl ⟨by rfl, ?_⟩) ?_
          rotate_left
          · intro W hW
            (try dsimp only at hW)
            first | (go_simp; done) | (go_simp; with_reducible rfl)
          ((try simp only [Act.put]); (try simp only [List.setIfInBounds_toArray]); (try simp only [List.set_cons_succ]); (try simp only [List.set_cons_zero]))
          refine takeL (i := 4) rfl (by kernel_rfl) (by kernel_rfl) (by kernel_rfl) (fun _ _ _ _ h => h) hHeld ?_ (Or.inl ⟨by rfl, ?_⟩) ?_
          rotate_left
          · intro W hW
            (try dsimp only at hW)
            first | (go_simp; done) | (go_simp; with_reducible rfl)
          ((try simp only [Act.put]); (try simp only [List.setIfInBounds_toArray]); (try simp only [List.set_cons_succ]); (try simp only [List.set_cons_zero]))
          refine takeL (i := 6) rfl (by kernel_rfl) (by kernel_rfl) (by kernel_rfl) (fun _ _ _ _ h => h) hHeld ?_ (Or.inl ⟨by rfl, ?_⟩) ?_
          rotate_left
          · intro W hW
            (try dsimp only at hW)
            first | (go_simp; done) | (go_simp; with_reducible rfl)
          ((try simp only [Act.put]); (try simp only [List.setIfInBounds_toArray]); (try simp only [List.set_cons_succ]); (try simp only [List.set_cons_zero]))
          refine takeL (i := 7) rfl (by kernel_rfl) (by kernel_rfl) (by kernel_rfl) (fun _ _ _ _ h => h) hHeld ?_ (Or.inl ⟨by rfl, ?_⟩) ?_
          rotate_left
          · intro W hW
            (try dsimp only at hW)
            first | (go_simp; done) | (go_simp; with_reducible rfl)
          ((try simp only [Act.put]); (try simp only [List.setIfInBounds_toArray]); (try simp only [List.set_cons_succ]); (try simp only [List.set_cons_zero]))
          refine takeL (i := 8) rfl (by kernel_rfl) (by kernel_rfl) (by kernel_rfl) (fun _ _ _ _ h => h) hHeld ?_ (Or.inl ⟨by rfl, ?_⟩) ?_
          rotate_left
          · intro W hW
            (try dsimp only at hW)
            first | (go_simp; done) | (go_simp; with_reducible rfl)
          ((try simp only [Act.put]); (try simp only [List.setIfInBounds_toArray]); (try simp only [List.set_cons_succ]); (try simp only [List.set_cons_zero]))
          refine takeL (i := 9) rfl (by kernel_rfl) (by kernel_rfl) (by kernel_rfl) (fun _ _ _ _ h => h) hHeld ?_ (Or.inl ⟨by rfl, ?_⟩) ?_
          rotate_left
          · intro W hW
            (try dsimp only at hW)
            first | (go_simp; done) | (go_simp; with_reducible rfl)
          ((try simp only [Act.put]); (try simp only [List.setIfInBounds_toArray]); (try simp only [List.set_cons_succ]); (try simp only [List.set_cons_zero]))
          refine takeL (i := 10) rfl (by kernel_rfl) (by kernel_rfl) (by kernel_rfl) (fun _ _ _ _ h => h) hHeld ?_ (Or.inl ⟨by rfl, ?_⟩) ?_
          rotate_left
          · intro W hW
            (try dsimp only at hW)
            first | (go_simp; done) | (go_simp; with_reducible rfl)
          ((try simp only [Act.put]); (try simp only [List.setIfInBounds_toArray]); (try simp only [List.set_cons_succ]); (try simp only [List.set_cons_zero]))
          refine callL (i := 5) rfl (by kernel_rfl) (fun K hK => ?_)
          rw [if_pos (by rfl)]
          go_simp
          refine (hLn.out _ _ H).mono ?_
          rintro r w7 ⟨rfl, H7⟩
          have H' := H7
          clear H hHeld
          clear H7
          have H := H'
          clear H'
          refine hK.out _ _ ?_ (fun hHeld => ?_)
          · exact ⟨H.tail.cell (b := wb) (o := 0) (.here _ _) rfl, H.tail.cell (b := wb) (o := 1) (.here _ _) rfl⟩
          clear hK K
          ((try simp only [Act.put]); (try simp only [List.setIfInBounds_toArray]); (try simp only [List.set_cons_succ]); (try simp only [List.set_cons_zero]))
          refine callL (i := 11) rfl (by kernel_rfl) (fun K hK => ?_)
          rw [if_pos (by rfl)]
          go_simp
          refine (hLn2.out _ _ H).mono ?_
          rintro r w8 ⟨rfl, H8⟩
          have H' := H8
          clear H hHeld
          clear H8
          have H := H'
          clear H'
          refine hK.out _ _ ?_ (fun hHeld => ?_)
          · exact ⟨H.tail.cell (b := wb) (o := 0) (.here _ _) rfl, H.tail.cell (b := wb) (o := 1) (.here _ _) rfl⟩
          clear hK K
          ((try simp only [Act.put]); (try simp only [List.setIfInBounds_toArray]); (try simp only [List.set_cons_succ]); (try simp only [List.set_cons_zero]))
          refine takeL (i := 12) rfl (by kernel_rfl) (by kernel_rfl) (by kernel_rfl) (fun _ _ _ _ h => h) hHeld ?_ (Or.inl ⟨by rfl, ?_⟩) ?_
          rotate_left
          · intro W hW
            (try dsimp only at hW)
            first | (go_simp; done) | (go_simp; with_reducible rfl)
          ((try simp only [Act.put]); (try simp only [List.setIfInBounds_toArray]); (try simp only [List.set_cons_succ]); (try simp only [List.set_cons_zero]))
          refine wpAnyH_done (by kernel_rfl) ?_ _
          clear hHeld
          have hH := Lib.hid H
          clear H
          have hMM : ((M : Int) != (M : Int)) = false := by simp
          go_wp2_with fail
          go_loopw [16] (fun i V => ∃ j : Nat, j ≤ M ∧ i = .int .i64 j ∧ Hid (TwoN p s q s2 [.blk wb [.int .i64 w0, .int .i64 w1] 42, .old w no] V)) (fun i _ => M - (intOf i).toNat)
          case atStart => exact ⟨0, by omega, rfl, hH⟩
          case round =>
            clear hH
            obtain ⟨j, hj, rfl, hN⟩ := hrel
            have y0 := hN.out.tail.cell (b := wb) (o := 0) (.here _ _) rfl
            have y1 := hN.out.tail.cell (b := wb) (o := 1) (.here _ _) rfl
            have hl := Lib.hid (hLn.out _ _ hN.out)
            clear hN
            go_wp2_with fail
            refine hl.out.mono ?_
            rintro e w9 ⟨rfl, NN⟩
            clear hl y0 y1
            by_cases hjM : j < M
            · obtain ⟨hh1, hh2, hth⟩ := hhas.out j hjM
              have y0 := NN.tail.cell (b := wb) (o := 0) (.here _ _) rfl
              have y1 := NN.tail.cell (b := wb) (o := 1) (.here _ _) rfl
              have hpk := Lib.hid (NN.peek1 hw0'.out hw1'.out hh1)
              have hpk2 := Lib.hid (fun V L (h : TwoN p s q s2 L V) => h.peek2 hw0'.out hw1'.out hh2)
              rw [hth] at hpk2
              clear NN hh1 hh2 hth
              generalize s.the w0 w1 (j : Nat) = B at *
              unfold ptrV at *
              go_wp2_with fail
              refine hpk.out.mono ?_
              rintro e w10 ⟨⟨va, vn, vc⟩, rfl, NN⟩
              clear hpk y0 y1
              have y0 := NN.tail.cell (b := wb) (o := 0) (.there (.here _ _)) rfl
              have y1 := NN.tail.cell (b := wb) (o := 1) (.there (.here _ _)) rfl
              have hpk := Lib.hid (hpk2.out _ _ NN)
              clear NN hpk2
              unfold slV at *
              dsimp only at *
              go_wp2_with fail
              refine hpk.out.mono ?_
              rintro e w11 ⟨⟨vb, vm, vd⟩, rfl, NN⟩
              clear hpk y0 y1
              have hst := gr_str NN.tail (.here _ _)
              have hst2 := gr_str NN.tail (.there (.here _ _))
              have hN := Lib.hid (show TwoN p s q s2 [.blk wb [.int .i64 w0, .int .i64 w1] 42, .old w no] w11 from by
                obtain ⟨N2, h2, H2⟩ := NN
                exact ⟨N2, h2, H2.re (re_app N2 (.drop (.drop (.same _))))⟩)
              clear NN
              dsimp only at hst hst2
              generalize strOfNums B = str at *
              unfold slV at *
              dsimp only at *
              go_wp2_with fail
              go_roundw
              case rel => exact ⟨j + 1, by omega, by go_num, hN⟩
              case measure => (simp [intOf]; try omega)
            · obtain rfl : j = M := by omega
              have hfin := Lib.hid (NN.tail.kp (.there (.here _ _)))
              clear NN
              go_wp2_with fail
              go_ret
              exact ⟨rfl, hfin.out⟩
    · clear hH
      have hnew := Lib.hid (new_no n room (by omega))
      go_wp2_with fail
      refine (hnew.out _).mono ?_
      rintro e w3 ⟨rfl, rfl⟩
      go_wp2_with fail
      refine (hnew.out _).mono ?_
      rintro e w4 ⟨rfl, rfl⟩
      go_wp2_with fail
      go_ret
      exact ⟨rfl, hk1.out⟩
  · clear hr
    go_wp2_with fail
    go_ret
    exact ⟨rfl, hk1.out⟩
end Go.Proofs.Ytnkahibddhchlaa
