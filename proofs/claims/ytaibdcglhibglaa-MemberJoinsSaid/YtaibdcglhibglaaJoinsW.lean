/- The walk of the law MemberJoins. -/
import Derived.Test.YtaibdcglhibglaaJoinsL
import Derived.Test.YtaibdcglhibglaaDoW
import Derived.Test.YtaibdcglhibglaaAlive
namespace Go.Proofs.Ytaibdcglhibglaa
open Go.RowKit
set_option linter.unusedVariables false
set_option linter.unusedSimpArgs false

theorem aliveS {w : World} {L : List Pc} (H : SL w L) : Calls Try.prog 8 #[] w fun e w' => e = .returned (.bool true) ∧ SL w' L := (alive_k w).mono fun _ _ ⟨e, h⟩ => ⟨e, H.quiet h⟩

/-- What stands ahead of a round: the proposer, who was met, the members, the view. -/
def JoinsP (p : Nat) (x : St) (mb : Nat) (l : List Int) (m : Nat) (aa : Option Addr) (cc : Nat) (vb : Nat) (s : Value) (w : World) (L : List Pc) (a : Option Addr) (c b : Nat) : List Pc :=
  MS p a c b x (.blk mb (bv 6 x.ps) 61 :: .own 3 1 (.slice aa m cc) m (iv l) :: .blk vb [.int .u32 4, .int .i64 0, s] 34 :: L)
def JoinsR (p : Nat) (x : St) (mb : Nat) (l : List Int) (m : Nat) (aa : Option Addr) (cc : Nat) (vb : Nat) (s : Value) (w : World) (V : World) : Prop :=
  x.Ok ∧ JoinI x l ∧ ∃ (a : Option Addr) (c b : Nat), SL V (JoinsP p x mb l m aa cc vb s w [.old w no] a c b)

set_option maxRecDepth 100000 in
set_option maxHeartbeats 16000000 in
theorem joins_c (s : Int) (a : Option Addr) (n cap : Nat) (f : Nat → ActM) (w : World) (hn : n ≤ 9223372036854775807) (ho : RdActs w a n f) (hs : 0 ≤ s ∧ s ≤ 255) :
    Calls Try.prog 5 #[.int .u8 s, .slice a n cap] w fun r w' => r = .returned (.bool true) ∧ Kp no w w' := by
  have ho' := Lib.hid ho
  have c := Lib.hid (aliveS (SL.start w))
  clear ho
  go_enter Try.func5, Try.ntmps5
  go_wp2_with fail
  refine c.out.mono ?_
  rintro r W1 ⟨rfl, H⟩
  have c1 := Lib.hid (newS_c 0 5 6 H (by omega) (by omega) (by omega) (by omega) (by omega) (by omega))
  clear H c
  go_wp2_with fail
  refine c1.out.mono ?_
  rintro r W2 ⟨p, a1, c1', b1, rfl, H⟩
  clear c1
  by_cases h60 : 60 < n
  · have hd : decide ((60 : Int) < (n : Int)) = true := by simp; omega
    have hk := Lib.hid (H.kp (show Pull _ (.old w no) _ from (by first | exact .here _ _ | exact .there (.here _ _) | exact .there (.there (.here _ _)) | exact .there (.there (.there (.here _ _))) | exact .there (.there (.there (.there (.here _ _)))) | exact .there (.there (.there (.there (.there (.here _ _))))) | exact .there (.there (.there (.there (.there (.there (.here _ _)))))) | exact .there (.there (.there (.there (.there (.there (.there (.here _ _))))))) | exact .there (.there (.there (.there (.there (.there (.there (.there (.here _ _)))))))) | exact .there (.there (.there (.there (.there (.there (.there (.there (.there (.here _ _))))))))) | exact .there (.there (.there (.there (.there (.there (.there (.there (.there (.there (.here _ _)))))))))) | exact .there (.there (.there (.there (.there (.there (.there (.there (.there (.there (.there (.here _ _))))))))))) | exact .there (.there (.there (.there (.there (.there (.there (.there (.there (.there (.there (.there (.here _ _)))))))))))) | exact .there (.there (.there (.there (.there (.there (.there (.there (.there (.there (.there (.there (.there (.here _ _))))))))))))))))
    clear H h60
    go_wp2_with fail
    go_ret
    exact ⟨rfl, hk.out⟩
  have hd : decide ((60 : Int) < (n : Int)) = false := by simp; omega
  have hn60 : n ≤ 60 := by omega
  have H1 := (H.pure (q := .own 3 1 (.slice none 0 0) 0 (iv (setL s 0))) (OwnK.nil _ _ _ _) (fun b h => by cases h))
  have hH := Lib.hid H1
  clear H H1 h60 hn
  go_wp2_with fail
  go_loopw [9, 8] (fun i t V => ∃ (j m : Nat) (aa : Option Addr) (cc : Nat), j ≤ 6 ∧ i = .int .i64 j ∧ t = .slice aa m cc ∧ m = (setL s j).length ∧ SL V (.own 3 1 (.slice aa m cc) m (iv (setL s j)) :: MS p a1 c1' b1 (St0 0 5 6) [.old w no])) (fun i _ _ => 6 - (intOf i).toNat)
  case atStart => exact ⟨0, 0, none, 0, by omega, rfl, rfl, rfl, hH.out⟩
  case round =>
    clear hH
    obtain ⟨j, m, aa, cc, hj, rfl, rfl, hm, H⟩ := hrel
    by_cases hj6 : j < 6
    · have hm6 : m ≤ 6 := by have := setL_len (s := s) (k := j); omega
      have hm' := Lib.hid hm
      have hH := Lib.hid H
      clear hm H
      have hjj : j = 0 ∨ j = 1 ∨ j = 2 ∨ j = 3 ∨ j = 4 ∨ j = 5 := by omega
      clear hj hj6
      rcases hjj with rfl | rfl | rfl | rfl | rfl | rfl
      · rw [show ((0 : Nat) : Int) = 0 from rfl]
        have hsl := Lib.hid (setL_yes (s := s) (k := 0) rfl)
        go_wp2_with (
          at_builtin
          refine sl_app (hH.out.alloc [.int .i64 0] 3) rfl _ _ _ rfl elemI _ rfl (.there (.here _ _)) [.int .i64 0] rfl rfl (rd_newK _ _ _) (by simp [Value.oneCell']) (by simp only [maxLen]; omega) (by omega) (fun h => by cases h) ?_
          intro v' w3 H3 hnil
          obtain ⟨a', c', rfl, -⟩ := OwnK.slice H3.head
          have H4 := Lib.hid (H3.re (.step (.here _ _) (.drop (.same _))))
          clear H3 hnil)
        go_roundw
        case rel => exact ⟨1, m + 1, a', c', by omega, rfl, rfl, by rw [hsl.out]; simp [hm'.out], by rw [hsl.out, iv_append]; exact H4.out⟩
        case measure => (simp [intOf]; try omega)
      · rw [show ((1 : Nat) : Int) = 1 from rfl]
        have hb := inSet_bits (s := s) (k := 1) (m := 2) (by omega) (by rfl) (by omega) hs
        obtain ⟨e, he⟩ : ∃ e, inSet s 1 = e := ⟨_, rfl⟩
        rw [he] at hb
        have he' := Lib.hid he
        clear he
        cases e
        · have hsl := Lib.hid (setL_no he'.out)
          go_wp2_with fail
          go_roundw
          case rel => exact ⟨2, m, aa, cc, by omega, rfl, rfl, by rw [hsl.out]; exact hm'.out, by rw [hsl.out]; exact hH.out⟩
          case measure => (simp [intOf]; try omega)
        · have hsl := Lib.hid (setL_yes he'.out)
          go_wp2_with (
            at_builtin
            refine sl_app (hH.out.alloc [.int .i64 1] 3) rfl _ _ _ rfl elemI _ rfl (.there (.here _ _)) [.int .i64 1] rfl rfl (rd_newK _ _ _) (by simp [Value.oneCell']) (by simp only [maxLen]; omega) (by omega) (fun h => by cases h) ?_
            intro v' w3 H3 hnil
            obtain ⟨a', c', rfl, -⟩ := OwnK.slice H3.head
            have H4 := Lib.hid (H3.re (.step (.here _ _) (.drop (.same _))))
            clear H3 hnil)
          go_roundw
          case rel => exact ⟨2, m + 1, a', c', by omega, rfl, rfl, by rw [hsl.out]; simp [hm'.out], by rw [hsl.out, iv_append]; exact H4.out⟩
          case measure => (simp [intOf]; try omega)
      · rw [show ((2 : Nat) : Int) = 2 from rfl]
        have hb := inSet_bits (s := s) (k := 2) (m := 4) (by omega) (by rfl) (by omega) hs
        obtain ⟨e, he⟩ : ∃ e, inSet s 2 = e := ⟨_, rfl⟩
        rw [he] at hb
        have he' := Lib.hid he
        clear he
        cases e
        · have hsl := Lib.hid (setL_no he'.out)
          go_wp2_with fail
          go_roundw
          case rel => exact ⟨3, m, aa, cc, by omega, rfl, rfl, by rw [hsl.out]; exact hm'.out, by rw [hsl.out]; exact hH.out⟩
          case measure => (simp [intOf]; try omega)
        · have hsl := Lib.hid (setL_yes he'.out)
          go_wp2_with (
            at_builtin
            refine sl_app (hH.out.alloc [.int .i64 2] 3) rfl _ _ _ rfl elemI _ rfl (.there (.here _ _)) [.int .i64 2] rfl rfl (rd_newK _ _ _) (by simp [Value.oneCell']) (by simp only [maxLen]; omega) (by omega) (fun h => by cases h) ?_
            intro v' w3 H3 hnil
            obtain ⟨a', c', rfl, -⟩ := OwnK.slice H3.head
            have H4 := Lib.hid (H3.re (.step (.here _ _) (.drop (.same _))))
            clear H3 hnil)
          go_roundw
          case rel => exact ⟨3, m + 1, a', c', by omega, rfl, rfl, by rw [hsl.out]; simp [hm'.out], by rw [hsl.out, iv_append]; exact H4.out⟩
          case measure => (simp [intOf]; try omega)
      · rw [show ((3 : Nat) : Int) = 3 from rfl]
        have hb := inSet_bits (s := s) (k := 3) (m := 8) (by omega) (by rfl) (by omega) hs
        obtain ⟨e, he⟩ : ∃ e, inSet s 3 = e := ⟨_, rfl⟩
        rw [he] at hb
        have he' := Lib.hid he
        clear he
        cases e
        · have hsl := Lib.hid (setL_no he'.out)
          go_wp2_with fail
          go_roundw
          case rel => exact ⟨4, m, aa, cc, by omega, rfl, rfl, by rw [hsl.out]; exact hm'.out, by rw [hsl.out]; exact hH.out⟩
          case measure => (simp [intOf]; try omega)
        · have hsl := Lib.hid (setL_yes he'.out)
          go_wp2_with (
            at_builtin
            refine sl_app (hH.out.alloc [.int .i64 3] 3) rfl _ _ _ rfl elemI _ rfl (.there (.here _ _)) [.int .i64 3] rfl rfl (rd_newK _ _ _) (by simp [Value.oneCell']) (by simp only [maxLen]; omega) (by omega) (fun h => by cases h) ?_
            intro v' w3 H3 hnil
            obtain ⟨a', c', rfl, -⟩ := OwnK.slice H3.head
            have H4 := Lib.hid (H3.re (.step (.here _ _) (.drop (.same _))))
            clear H3 hnil)
          go_roundw
          case rel => exact ⟨4, m + 1, a', c', by omega, rfl, rfl, by rw [hsl.out]; simp [hm'.out], by rw [hsl.out, iv_append]; exact H4.out⟩
          case measure => (simp [intOf]; try omega)
      · rw [show ((4 : Nat) : Int) = 4 from rfl]
        have hb := inSet_bits (s := s) (k := 4) (m := 16) (by omega) (by rfl) (by omega) hs
        obtain ⟨e, he⟩ : ∃ e, inSet s 4 = e := ⟨_, rfl⟩
        rw [he] at hb
        have he' := Lib.hid he
        clear he
        cases e
        · have hsl := Lib.hid (setL_no he'.out)
          go_wp2_with fail
          go_roundw
          case rel => exact ⟨5, m, aa, cc, by omega, rfl, rfl, by rw [hsl.out]; exact hm'.out, by rw [hsl.out]; exact hH.out⟩
          case measure => (simp [intOf]; try omega)
        · have hsl := Lib.hid (setL_yes he'.out)
          go_wp2_with (
            at_builtin
            refine sl_app (hH.out.alloc [.int .i64 4] 3) rfl _ _ _ rfl elemI _ rfl (.there (.here _ _)) [.int .i64 4] rfl rfl (rd_newK _ _ _) (by simp [Value.oneCell']) (by simp only [maxLen]; omega) (by omega) (fun h => by cases h) ?_
            intro v' w3 H3 hnil
            obtain ⟨a', c', rfl, -⟩ := OwnK.slice H3.head
            have H4 := Lib.hid (H3.re (.step (.here _ _) (.drop (.same _))))
            clear H3 hnil)
          go_roundw
          case rel => exact ⟨5, m + 1, a', c', by omega, rfl, rfl, by rw [hsl.out]; simp [hm'.out], by rw [hsl.out, iv_append]; exact H4.out⟩
          case measure => (simp [intOf]; try omega)
      · rw [show ((5 : Nat) : Int) = 5 from rfl]
        have hb := inSet_bits (s := s) (k := 5) (m := 32) (by omega) (by rfl) (by omega) hs
        obtain ⟨e, he⟩ : ∃ e, inSet s 5 = e := ⟨_, rfl⟩
        rw [he] at hb
        have he' := Lib.hid he
        clear he
        cases e
        · have hsl := Lib.hid (setL_no he'.out)
          go_wp2_with fail
          go_roundw
          case rel => exact ⟨6, m, aa, cc, by omega, rfl, rfl, by rw [hsl.out]; exact hm'.out, by rw [hsl.out]; exact hH.out⟩
          case measure => (simp [intOf]; try omega)
        · have hsl := Lib.hid (setL_yes he'.out)
          go_wp2_with (
            at_builtin
            refine sl_app (hH.out.alloc [.int .i64 5] 3) rfl _ _ _ rfl elemI _ rfl (.there (.here _ _)) [.int .i64 5] rfl rfl (rd_newK _ _ _) (by simp [Value.oneCell']) (by simp only [maxLen]; omega) (by omega) (fun h => by cases h) ?_
            intro v' w3 H3 hnil
            obtain ⟨a', c', rfl, -⟩ := OwnK.slice H3.head
            have H4 := Lib.hid (H3.re (.step (.here _ _) (.drop (.same _))))
            clear H3 hnil)
          go_roundw
          case rel => exact ⟨6, m + 1, a', c', by omega, rfl, rfl, by rw [hsl.out]; simp [hm'.out], by rw [hsl.out, iv_append]; exact H4.out⟩
          case measure => (simp [intOf]; try omega)
    · obtain rfl : j = 6 := by omega
      clear hj hj6
      have hok0 := Lib.hid (St0_ok (self := 0) (disp := 5) (n := 6) (by omega) (by omega) (by omega) (by omega))
      have hcan := Lib.hid (joins_first s)
      have hlr := Lib.hid (setL_rising s)
      have hll := Lib.hid (show (setL s 6).length ≤ 6 from setL_len)
      have hll0 := Lib.hid (show ∀ x ∈ setL s 6, 0 ≤ x ∧ x < ((6 : Nat) : Int) from fun x h => setL_lt x h)
      obtain ⟨l, hl⟩ : ∃ l, setL s 6 = l := ⟨_, rfl⟩
      rw [hl] at hlr hll H hm hcan hll0
      have hm' := Lib.hid hm.symm
      have hmm : m ≤ 6 := by have := hll.out; omega
      clear hl hm
      replace H := H.re (L' := MS p a1 c1' b1 (St0 0 5 6) [.own 3 1 (.slice aa m cc) m (iv l), .old w no]) (.step (.there (.here _ _)) (.step (.there (.here _ _)) (.step (.there (.here _ _)) (.same _))))
      have c := Lib.hid (epoch_c H 3 1)
      clear H
      go_wp2_with fail
      refine c.out.mono ?_
      rintro r W3 ⟨rfl, H⟩
      have c2 := Lib.hid (heardS_c H hok0.out.n1 3 1)
      have hok1 := Lib.hid (hok0.out.heard (M := 3) 1 (by omega) (by omega))
      clear H c hok0
      go_wp2_with fail
      refine c2.out.mono ?_
      rintro r W4 ⟨rfl, H⟩
      clear c2
      obtain ⟨x1, hx1⟩ : ∃ x1, ((St0 0 5 6).heard 3 1).2 = x1 := ⟨_, rfl⟩
      have hx1' := Lib.hid (show x1 = ⟨0, 6, 5, 0, 0, rangeI 6, 3, 1, true, fun _ => false, 0⟩ from by rw [← hx1]; rfl)
      rw [hx1] at H hok1 hcan
      generalize ((St0 0 5 6).heard 3 1).1 = r1 at *
      clear hx1
      have c3 := Lib.hid (proposeK_yes H hok1.out.n1 (by have := hok1.out.len; omega) aa cc m l hm'.out (by have := hll.out; omega) (fun V h => (OwnK.rdI (show OwnK V 0 3 1 (.slice aa m cc) m (iv l) from h.ownOf (by first | exact .here _ _ | exact .there (.here _ _) | exact .there (.there (.here _ _)) | exact .there (.there (.there (.here _ _))) | exact .there (.there (.there (.there (.here _ _)))) | exact .there (.there (.there (.there (.there (.here _ _))))) | exact .there (.there (.there (.there (.there (.there (.here _ _)))))) | exact .there (.there (.there (.there (.there (.there (.there (.here _ _))))))) | exact .there (.there (.there (.there (.there (.there (.there (.there (.here _ _)))))))) | exact .there (.there (.there (.there (.there (.there (.there (.there (.there (.here _ _))))))))) | exact .there (.there (.there (.there (.there (.there (.there (.there (.there (.there (.here _ _)))))))))) | exact .there (.there (.there (.there (.there (.there (.there (.there (.there (.there (.there (.here _ _))))))))))) | exact .there (.there (.there (.there (.there (.there (.there (.there (.there (.there (.there (.there (.here _ _)))))))))))) | exact .there (.there (.there (.there (.there (.there (.there (.there (.there (.there (.there (.there (.there (.here _ _)))))))))))))))).2.2) hcan.out ⟨hok1.out.g0, hok1.out.g1⟩ (N := 4) (s := 0) (by rw [hx1'.out]; rfl) (by rw [hx1'.out]) rfl)
      have hok2 := Lib.hid (hok1.out.adopt (M := 4) 0 (l := l) (by omega) (by omega) (by have := hll.out; omega) (show risingI l x1.nodes = true from by rw [hx1'.out]; exact hlr.out))
      have hJ : JoinI (x1.adopt (x1.gN + 1) x1.self l) l := by rw [hx1'.out]; exact ⟨rfl, rfl, rfl, rfl, rfl, rfl, fun k h => by cases h⟩
      have e4 : x1.adopt (x1.gN + 1) x1.self l = x1.adopt 4 0 l := by rw [hx1'.out]; rfl
      have hps : (x1.adopt (x1.gN + 1) x1.self l).ps = fun _ => false := rfl
      have hcn : (x1.adopt (x1.gN + 1) x1.self l).count = 0 := rfl
      have how : (x1.adopt (x1.gN + 1) x1.self l).owes = true := rfl
      rw [← e4] at hok2
      generalize x1.adopt (x1.gN + 1) x1.self l = x2 at *
      clear H hcan hok1 e4 hx1'
      have hJ' := Lib.hid hJ
      have hps' := Lib.hid hps
      have hcn' := Lib.hid hcn
      have how' := Lib.hid how
      clear hJ hps hcn how
      go_wp2_with fail
      refine c3.out.mono ?_
      rintro r W5 ⟨va, vc, a2, c2, b2, rfl, H⟩
      replace H := H.alloc [.int .u32 4, .int .i64 0, .slice va m vc] 34
      generalize hvb : W5.heap.size = vb at H
      have hvb' := Lib.hid hvb
      clear hvb c3
      have hH := Lib.hid H
      clear H
      go_wp2_with fail
      rw [hvb'.out]
      generalize W5.alloc (.cells #[.int .u32 4, .int .i64 0, .slice va m vc] 34) = w6 at *
      clear hvb'
      have hneq : ∀ V, (binOp .neq 31 (.agg #[.int .u32 4, .int .i64 0]) (.agg #[.int .u32 4, .int .i64 0])).run Try.prog V = .ok (.bool false) V := fun V => by rw [neq_epoch]; simp
      refine wp_region_held_drew (S := (fun W => W.cell? ⟨vb, 0, none⟩ = some (.int .u32 4) ∧ W.cell? ⟨vb, 1, none⟩ = some (.int .i64 0))) (by kernel_rfl) ?_ (fun hHeld => ?_)
      · have H := hH.out.drew
        exact ⟨H.cell (b := vb) (o := 0) (by first | exact .here _ _ | exact .there (.here _ _) | exact .there (.there (.here _ _)) | exact .there (.there (.there (.here _ _))) | exact .there (.there (.there (.there (.here _ _)))) | exact .there (.there (.there (.there (.there (.here _ _))))) | exact .there (.there (.there (.there (.there (.there (.here _ _)))))) | exact .there (.there (.there (.there (.there (.there (.there (.here _ _))))))) | exact .there (.there (.there (.there (.there (.there (.there (.there (.here _ _)))))))) | exact .there (.there (.there (.there (.there (.there (.there (.there (.there (.here _ _))))))))) | exact .there (.there (.there (.there (.there (.there (.there (.there (.there (.there (.here _ _)))))))))) | exact .there (.there (.there (.there (.there (.there (.there (.there (.there (.there (.there (.here _ _))))))))))) | exact .there (.there (.there (.there (.there (.there (.there (.there (.there (.there (.there (.there (.here _ _)))))))))))) | exact .there (.there (.there (.there (.there (.there (.there (.there (.there (.there (.there (.there (.there (.here _ _)))))))))))))) rfl, H.cell (b := vb) (o := 1) (by first | exact .here _ _ | exact .there (.here _ _) | exact .there (.there (.here _ _)) | exact .there (.there (.there (.here _ _))) | exact .there (.there (.there (.there (.here _ _)))) | exact .there (.there (.there (.there (.there (.here _ _))))) | exact .there (.there (.there (.there (.there (.there (.here _ _)))))) | exact .there (.there (.there (.there (.there (.there (.there (.here _ _))))))) | exact .there (.there (.there (.there (.there (.there (.there (.there (.here _ _)))))))) | exact .there (.there (.there (.there (.there (.there (.there (.there (.there (.here _ _))))))))) | exact .there (.there (.there (.there (.there (.there (.there (.there (.there (.there (.here _ _)))))))))) | exact .there (.there (.there (.there (.there (.there (.there (.there (.there (.there (.there (.here _ _))))))))))) | exact .there (.there (.there (.there (.there (.there (.there (.there (.there (.there (.there (.there (.here _ _)))))))))))) | exact .there (.there (.there (.there (.there (.there (.there (.there (.there (.there (.there (.there (.there (.here _ _)))))))))))))) rfl⟩
      have H := hH.out.drew
      generalize World.drew w6 = w7 at *
      clear hH
      refine takeL (i := 0) rfl (by kernel_rfl) (by kernel_rfl) (by kernel_rfl) (fun _ _ _ _ h => h) hHeld ?_ (Or.inl ⟨by rfl, ?_⟩) ?_
      rotate_left
      · intro W hW
        (try dsimp only at hW)
        first | (go_simp; done) | (go_simp; with_reducible rfl)
      ((try simp only [Act.put]); (try simp only [List.setIfInBounds_toArray]); (try simp only [List.set_cons_succ]); (try simp only [List.set_cons_zero]))
      refine takeL (i := 1) rfl (by kernel_rfl) (by kernel_rfl) (by kernel_rfl) (fun _ _ _ _ h => h) hHeld ?_ (Or.inl ⟨by rfl, ?_⟩) ?_
      rotate_left
      · intro W hW
        (try dsimp only at hW)
        first | (go_simp; done) | (go_simp; with_reducible rfl)
      ((try simp only [Act.put]); (try simp only [List.setIfInBounds_toArray]); (try simp only [List.set_cons_succ]); (try simp only [List.set_cons_zero]))
      refine takeL (i := 2) rfl (by kernel_rfl) (by kernel_rfl) (by kernel_rfl) (fun _ _ _ _ h => h) hHeld ?_ (Or.inl ⟨by rfl, ?_⟩) ?_
      rotate_left
      · intro W hW
        (try dsimp only at hW)
        first | (go_simp; done) | (go_simp; with_reducible rfl)
      ((try simp only [Act.put]); (try simp only [List.setIfInBounds_toArray]); (try simp only [List.set_cons_succ]); (try simp only [List.set_cons_zero]))
      refine takeL (i := 3) rfl (by kernel_rfl) (by kernel_rfl) (by kernel_rfl) (fun _ _ _ _ h => h) hHeld ?_ (Or.inl ⟨by rfl, ?_⟩) ?_
      rotate_left
      · intro W hW
        (try dsimp only at hW)
        first | (go_simp; done) | (go_simp; with_reducible rfl)
      ((try simp only [Act.put]); (try simp only [List.setIfInBounds_toArray]); (try simp only [List.set_cons_succ]); (try simp only [List.set_cons_zero]))
      refine takeL (i := 4) rfl (by kernel_rfl) (by kernel_rfl) (by kernel_rfl) (fun _ _ _ _ h => h) hHeld ?_ (Or.inl ⟨by rfl, ?_⟩) ?_
      rotate_left
      · intro W hW
        (try dsimp only at hW)
        first | (go_simp; done) | (go_simp; with_reducible rfl)
      ((try simp only [Act.put]); (try simp only [List.setIfInBounds_toArray]); (try simp only [List.set_cons_succ]); (try simp only [List.set_cons_zero]))
      refine callL (i := 5) rfl (by kernel_rfl) (fun K hK => ?_)
      rw [if_pos (by rfl)]
      go_simp
      refine (epoch_c H 4 0).mono ?_
      rintro r w8 ⟨rfl, H5⟩
      have H' := H5
      clear H hHeld
      clear H5
      have H := H'
      clear H'
      refine hK.out _ _ ?_ (fun hHeld => ?_)
      · exact ⟨H.cell (b := vb) (o := 0) (by first | exact .here _ _ | exact .there (.here _ _) | exact .there (.there (.here _ _)) | exact .there (.there (.there (.here _ _))) | exact .there (.there (.there (.there (.here _ _)))) | exact .there (.there (.there (.there (.there (.here _ _))))) | exact .there (.there (.there (.there (.there (.there (.here _ _)))))) | exact .there (.there (.there (.there (.there (.there (.there (.here _ _))))))) | exact .there (.there (.there (.there (.there (.there (.there (.there (.here _ _)))))))) | exact .there (.there (.there (.there (.there (.there (.there (.there (.there (.here _ _))))))))) | exact .there (.there (.there (.there (.there (.there (.there (.there (.there (.there (.here _ _)))))))))) | exact .there (.there (.there (.there (.there (.there (.there (.there (.there (.there (.there (.here _ _))))))))))) | exact .there (.there (.there (.there (.there (.there (.there (.there (.there (.there (.there (.there (.here _ _)))))))))))) | exact .there (.there (.there (.there (.there (.there (.there (.there (.there (.there (.there (.there (.there (.here _ _)))))))))))))) rfl, H.cell (b := vb) (o := 1) (by first | exact .here _ _ | exact .there (.here _ _) | exact .there (.there (.here _ _)) | exact .there (.there (.there (.here _ _))) | exact .there (.there (.there (.there (.here _ _)))) | exact .there (.there (.there (.there (.there (.here _ _))))) | exact .there (.there (.there (.there (.there (.there (.here _ _)))))) | exact .there (.there (.there (.there (.there (.there (.there (.here _ _))))))) | exact .there (.there (.there (.there (.there (.there (.there (.there (.here _ _)))))))) | exact .there (.there (.there (.there (.there (.there (.there (.there (.there (.here _ _))))))))) | exact .there (.there (.there (.there (.there (.there (.there (.there (.there (.there (.here _ _)))))))))) | exact .there (.there (.there (.there (.there (.there (.there (.there (.there (.there (.there (.here _ _))))))))))) | exact .there (.there (.there (.there (.there (.there (.there (.there (.there (.there (.there (.there (.here _ _)))))))))))) | exact .there (.there (.there (.there (.there (.there (.there (.there (.there (.there (.there (.there (.there (.here _ _)))))))))))))) rfl⟩
      clear hK K
      ((try simp only [Act.put]); (try simp only [List.setIfInBounds_toArray]); (try simp only [List.set_cons_succ]); (try simp only [List.set_cons_zero]))
      refine takeL (i := 6) rfl (by kernel_rfl) (by kernel_rfl) (by kernel_rfl) (fun _ _ _ _ h => h) hHeld ?_ (Or.inl ⟨by rfl, ?_⟩) ?_
      rotate_left
      · intro W hW
        (try dsimp only at hW)
        first | (go_simp; done) | (go_simp; with_reducible rfl)
      ((try simp only [Act.put]); (try simp only [List.setIfInBounds_toArray]); (try simp only [List.set_cons_succ]); (try simp only [List.set_cons_zero]))
      refine takeL (i := 7) rfl (by kernel_rfl) (by kernel_rfl) (by kernel_rfl) (fun _ _ _ _ h => h) hHeld ?_ (Or.inl ⟨by rfl, ?_⟩) ?_
      rotate_left
      · intro W hW
        (try dsimp only at hW)
        first | (go_simp; done) | (go_simp; with_reducible rfl)
      ((try simp only [Act.put]); (try simp only [List.setIfInBounds_toArray]); (try simp only [List.set_cons_succ]); (try simp only [List.set_cons_zero]))
      refine wpAnyH_done (by kernel_rfl) ?_ _
      
      clear hneq hHeld
      replace H := H.re (L' := MS p a2 c2 b2 x2 [.own 3 1 (.slice aa m cc) m (iv l), .blk vb [.int .u32 4, .int .i64 0, .slice va m vc] 34, .old w no]) (.step (.there (.there (.here _ _))) (.step (.there (.there (.here _ _))) (.step (.there (.there (.here _ _))) (.step (.there (.there (.here _ _))) (.step (.here _ _) (.drop (.same _)))))))
      have c4 := Lib.hid (owesK H hok2.out.n1 (n := 0) (o := true) (y := x2.paid) (by rw [how'.out, if_pos rfl]; exact hJ'.out.By) how'.out rfl)
      clear H how'
      go_wp2_with fail
      refine c4.out.mono ?_
      rintro r W8 ⟨rfl, H⟩
      clear c4
      replace H := H.alloc (bv 6 x2.paid.ps) 61
      have hst : JoinsR p x2.paid W8.heap.size l m aa cc vb (.slice va m vc) w (W8.alloc (.cells (bv 6 x2.paid.ps).toArray 61)) :=
        ⟨hok2.out.paid, ⟨hJ'.out.self, hJ'.out.nodes, hJ'.out.disp, hJ'.out.N, hJ'.out.By, hJ'.out.ms, hJ'.out.sub⟩, a2, c2, b2, H.re (.step (.there (.here _ _)) (.step (.there (.here _ _)) (.step (.there (.here _ _)) (.same _))))⟩
      have hcn : x2.paid.count = 0 := hcn'.out
      have hpp : x2.paid.ps = fun _ => false := hps'.out
      rw [hpp] at hst
      have hcn'' := Lib.hid hcn
      generalize x2.paid = x3 at *
      have hst' := Lib.hid hst
      clear hst H hcn hpp hps' hcn' hok2 hJ'
      have hbz : (bv 6 (fun _ => false)).toArray = #[.bool false, .bool false, .bool false, .bool false, .bool false, .bool false] := by rfl
      rw [hbz] at hst'
      clear hbz
      go_wp2_with fail
      generalize W8.alloc (.cells #[.bool false, .bool false, .bool false, .bool false, .bool false, .bool false] 61) = w9 at *
      generalize W8.heap.size = mb at *
      go_loopw [85, 15] (fun i t V => ∃ (k : Nat) (x : St), k ≤ n ∧ i = .int .i64 k ∧ t = .int .i64 x.count ∧ JoinsR p x mb l m aa cc vb (.slice va m vc) w V) (fun i _ _ => n - (intOf i).toNat)
      case atStart => exact ⟨0, x3, by omega, rfl, by rw [hcn''.out], hst'.out⟩
      case round =>
        clear hst' hcn''
        obtain ⟨k, x, hk, rfl, rfl, hx, hJ, a3, c3, b3, H⟩ := hrel
        have hx' := Lib.hid hx
        have hJ' := Lib.hid hJ
        clear hx hJ
        by_cases hkn : k < n
        · obtain ⟨bo, oo, rfl, hat, -⟩ := ho'.out k hkn
          obtain ⟨X, hX⟩ : ∃ X, f k = X := ⟨_, rfl⟩
          rw [hX] at hat
          obtain ⟨kk, A, B, set, N⟩ := X
          obtain ⟨-, k1, -, -, k4⟩ := hat.no (H.kp (show Pull _ (.old w no) _ from by unfold JoinsP; exact (by first | exact .here _ _ | exact .there (.here _ _) | exact .there (.there (.here _ _)) | exact .there (.there (.there (.here _ _))) | exact .there (.there (.there (.there (.here _ _)))) | exact .there (.there (.there (.there (.there (.here _ _))))) | exact .there (.there (.there (.there (.there (.there (.here _ _)))))) | exact .there (.there (.there (.there (.there (.there (.there (.here _ _))))))) | exact .there (.there (.there (.there (.there (.there (.there (.there (.here _ _)))))))) | exact .there (.there (.there (.there (.there (.there (.there (.there (.there (.here _ _))))))))) | exact .there (.there (.there (.there (.there (.there (.there (.there (.there (.there (.here _ _)))))))))) | exact .there (.there (.there (.there (.there (.there (.there (.there (.there (.there (.there (.here _ _))))))))))) | exact .there (.there (.there (.there (.there (.there (.there (.there (.there (.there (.there (.there (.here _ _)))))))))))) | exact .there (.there (.there (.there (.there (.there (.there (.there (.there (.there (.there (.there (.there (.here _ _))))))))))))))))
          dsimp only at k1 k4
          have hH := Lib.hid H
          clear hX hat H
          go_wp2_with fail
          go_quiet (fail)
          have hH1 := Lib.hid (hH.out.drewN nq)
          generalize wr.drewN nq = w10 at *
          clear hH k1 k4
          have hLl := Lib.hid (show l.length = m from hm'.out)
          by_cases hj : A ∈ l ∧ 0 ≤ N
          · have hcall := hJ'.out.yes hj.1 hj.2
            have hJz := hJ'.out.step (c := N) hj.1
            have hzok := hx'.out.join A 4 0 N
            have hA := hll0.out A hj.1
            obtain ⟨z, hz⟩ : ∃ z : St, ({ x with ps := fun i => x.ps i || i == A, count := if A = 5 then N else x.count } : St) = z := ⟨_, rfl⟩
            have hzp : z.ps = fun i => x.ps i || i == A := by rw [← hz]
            have hzc : z.count = if A = 5 then N else x.count := by rw [← hz]
            rw [hcall] at hzok
            rw [hz] at hcall hJz hzok
            have hmem := Lib.hid hj.1
            have hN0 : 0 ≤ N := hj.2
            obtain ⟨nn, rfl⟩ : ∃ nn : Nat, A = nn := ⟨A.toNat, by omega⟩
            have hnn : nn < 6 := by omega
            have hJz' := Lib.hid hJz
            have hzok' := Lib.hid hzok
            have hzp' := Lib.hid hzp
            have hzc' := Lib.hid hzc
            have ee : decide ((nn : Int) ∈ l) = true := decide_eq_true hj.1
            have hee := Lib.hid ee
            clear hj hA hz hzp hzc hJz hzok ee
            have v0 := hH1.out.cell (b := vb) (o := 0) (show Pull _ (.blk vb [.int .u32 4, .int .i64 0, .slice va m vc] 34) _ from by unfold JoinsP; exact (by first | exact .here _ _ | exact .there (.here _ _) | exact .there (.there (.here _ _)) | exact .there (.there (.there (.here _ _))) | exact .there (.there (.there (.there (.here _ _)))) | exact .there (.there (.there (.there (.there (.here _ _))))) | exact .there (.there (.there (.there (.there (.there (.here _ _)))))) | exact .there (.there (.there (.there (.there (.there (.there (.here _ _))))))) | exact .there (.there (.there (.there (.there (.there (.there (.there (.here _ _)))))))) | exact .there (.there (.there (.there (.there (.there (.there (.there (.there (.here _ _))))))))) | exact .there (.there (.there (.there (.there (.there (.there (.there (.there (.there (.here _ _)))))))))) | exact .there (.there (.there (.there (.there (.there (.there (.there (.there (.there (.there (.here _ _))))))))))) | exact .there (.there (.there (.there (.there (.there (.there (.there (.there (.there (.there (.there (.here _ _)))))))))))) | exact .there (.there (.there (.there (.there (.there (.there (.there (.there (.there (.there (.there (.there (.here _ _))))))))))))))) rfl
            have v1 := hH1.out.cell (b := vb) (o := 1) (show Pull _ (.blk vb [.int .u32 4, .int .i64 0, .slice va m vc] 34) _ from by unfold JoinsP; exact (by first | exact .here _ _ | exact .there (.here _ _) | exact .there (.there (.here _ _)) | exact .there (.there (.there (.here _ _))) | exact .there (.there (.there (.there (.here _ _)))) | exact .there (.there (.there (.there (.there (.here _ _))))) | exact .there (.there (.there (.there (.there (.there (.here _ _)))))) | exact .there (.there (.there (.there (.there (.there (.there (.here _ _))))))) | exact .there (.there (.there (.there (.there (.there (.there (.there (.here _ _)))))))) | exact .there (.there (.there (.there (.there (.there (.there (.there (.there (.here _ _))))))))) | exact .there (.there (.there (.there (.there (.there (.there (.there (.there (.there (.here _ _)))))))))) | exact .there (.there (.there (.there (.there (.there (.there (.there (.there (.there (.there (.here _ _))))))))))) | exact .there (.there (.there (.there (.there (.there (.there (.there (.there (.there (.there (.there (.here _ _)))))))))))) | exact .there (.there (.there (.there (.there (.there (.there (.there (.there (.there (.there (.there (.there (.here _ _))))))))))))))) rfl
            have c := Lib.hid (joinedK (show SL w10 (MS p a3 c3 b3 x _) from hH1.out) hx'.out.n1 (by have := hx'.out.len; omega) (nn : Int) 4 0 N (e := 0) (y := z) hcall)
            clear hcall
            go_wp2_with fail
            refine c.out.mono ?_
            rintro r W11 ⟨rfl, H⟩
            clear c v0 v1 hH1
            have c := Lib.hid (epoch_c H 3 0)
            clear H
            go_wp2_with fail
            refine c.out.mono ?_
            rintro r W12 ⟨rfl, H⟩
            clear c
            have c := Lib.hid (joinedK H hzok'.out.n1 (by have := hzok'.out.len; omega) (nn : Int) 3 0 N (e := 241) (y := z) (hJz'.out.other _ _))
            clear H
            go_wp2_with fail
            refine c.out.mono ?_
            rintro r W13 ⟨rfl, H⟩
            clear c
            have hrd := Lib.hid (OwnK.rdI (show OwnK W13 0 3 1 (.slice aa m cc) m (iv l) from H.ownOf (by first | exact .here _ _ | exact .there (.here _ _) | exact .there (.there (.here _ _)) | exact .there (.there (.there (.here _ _))) | exact .there (.there (.there (.there (.here _ _)))) | exact .there (.there (.there (.there (.there (.here _ _))))) | exact .there (.there (.there (.there (.there (.there (.here _ _)))))) | exact .there (.there (.there (.there (.there (.there (.there (.here _ _))))))) | exact .there (.there (.there (.there (.there (.there (.there (.there (.here _ _)))))))) | exact .there (.there (.there (.there (.there (.there (.there (.there (.there (.here _ _))))))))) | exact .there (.there (.there (.there (.there (.there (.there (.there (.there (.there (.here _ _)))))))))) | exact .there (.there (.there (.there (.there (.there (.there (.there (.there (.there (.there (.here _ _))))))))))) | exact .there (.there (.there (.there (.there (.there (.there (.there (.there (.there (.there (.there (.here _ _)))))))))))) | exact .there (.there (.there (.there (.there (.there (.there (.there (.there (.there (.there (.there (.there (.here _ _)))))))))))))))).2.2
            obtain ⟨lb, lo, rfl⟩ : ∃ lb lo, aa = some ⟨lb, lo, none⟩ := by
              have h0 : 0 < l.length := rising_pos hlr.out
              obtain ⟨lb, lo, h1, -⟩ := hrd.out.cell h0
              exact ⟨lb, lo, h1⟩
            have hH := Lib.hid H
            clear H
            go_wp2_with fail
            have hin := Lib.hid (show decide ((nn : Int) ∈ l.take m) = true from by rw [← hLl.out, List.take_length]; exact hee.out)
            obtain ⟨hc0, hf0⟩ := (show W13.cell? ⟨mb, nn, none⟩ = some (.bool (x.ps nn)) ∧ W13.frozen? ⟨mb, nn, none⟩ = false from ⟨hH.out.cell (b := mb) (o := nn) (show Pull _ (.blk mb (bv 6 x.ps) 61) _ from (by first | exact .here _ _ | exact .there (.here _ _) | exact .there (.there (.here _ _)) | exact .there (.there (.there (.here _ _))) | exact .there (.there (.there (.there (.here _ _)))) | exact .there (.there (.there (.there (.there (.here _ _))))) | exact .there (.there (.there (.there (.there (.there (.here _ _)))))) | exact .there (.there (.there (.there (.there (.there (.there (.here _ _))))))) | exact .there (.there (.there (.there (.there (.there (.there (.there (.here _ _)))))))) | exact .there (.there (.there (.there (.there (.there (.there (.there (.there (.here _ _))))))))) | exact .there (.there (.there (.there (.there (.there (.there (.there (.there (.there (.here _ _)))))))))) | exact .there (.there (.there (.there (.there (.there (.there (.there (.there (.there (.there (.here _ _))))))))))) | exact .there (.there (.there (.there (.there (.there (.there (.there (.there (.there (.there (.there (.here _ _)))))))))))) | exact .there (.there (.there (.there (.there (.there (.there (.there (.there (.there (.there (.there (.there (.here _ _))))))))))))))) (bv_get _ hnn), hH.out.free (show Pull _ (.blk mb (bv 6 x.ps) 61) _ from (by first | exact .here _ _ | exact .there (.here _ _) | exact .there (.there (.here _ _)) | exact .there (.there (.there (.here _ _))) | exact .there (.there (.there (.there (.here _ _)))) | exact .there (.there (.there (.there (.there (.here _ _))))) | exact .there (.there (.there (.there (.there (.there (.here _ _)))))) | exact .there (.there (.there (.there (.there (.there (.there (.here _ _))))))) | exact .there (.there (.there (.there (.there (.there (.there (.there (.here _ _)))))))) | exact .there (.there (.there (.there (.there (.there (.there (.there (.there (.here _ _))))))))) | exact .there (.there (.there (.there (.there (.there (.there (.there (.there (.there (.here _ _)))))))))) | exact .there (.there (.there (.there (.there (.there (.there (.there (.there (.there (.there (.here _ _))))))))))) | exact .there (.there (.there (.there (.there (.there (.there (.there (.there (.there (.there (.there (.here _ _)))))))))))) | exact .there (.there (.there (.there (.there (.there (.there (.there (.there (.there (.there (.there (.there (.here _ _))))))))))))))) _⟩)
            go_loop [111, 21] (fun i t => ∃ j : Nat, j ≤ m ∧ i = .int .i64 j ∧ t = .bool (decide ((nn : Int) ∈ l.take j))) (fun i _ => m - (intOf i).toNat)
            case atStart => exact ⟨0, by omega, rfl, by simp⟩
            case round =>
              obtain ⟨j, hj, rfl, rfl⟩ := hrel
              by_cases hjm : j < m
              · have hjl : j < l.length := by rw [hLl.out]; exact hjm
                obtain ⟨lb', lo', hlb, hcl⟩ := hrd.out.cell hjl
                cases hlb
                have htk := List.take_succ_eq_append_getElem hjl
                generalize l[j]'hjl = y at *
                obtain ⟨e1, he1⟩ : ∃ e, decide ((nn : Int) ∈ l.take j) = e := ⟨_, rfl⟩
                obtain ⟨e2, he2⟩ : ∃ e, (y == (nn : Int)) = e := ⟨_, rfl⟩
                have hnx := Lib.hid (show decide ((nn : Int) ∈ l.take (j + 1)) = (e1 || e2) from by rw [htk, ← he1, ← he2]; exact mem_snoc _ _ _)
                rw [he1]
                clear he1 htk
                cases e1
                · go_wp2_with fail
                  go_round
                  case rel => exact ⟨j + 1, by omega, by go_num, by rw [hnx.out]; simp⟩
                  case measure => (simp [intOf]; try omega)
                · go_wp2_with fail
                  go_round
                  case rel => exact ⟨j + 1, by omega, by go_num, by rw [hnx.out]; simp⟩
                  case measure => (simp [intOf]; try omega)
              obtain rfl : m = j := by omega
              rw [hin.out]
              go_upto_if 137 with fail
              go_cut [15] from 138 to 142 (fun t V => t = .int .i64 z.count ∧ SL V (JoinsP p z mb l m (some ⟨lb, lo, none⟩) cc vb (.slice va m vc) w [.old w no] a3 c3 b3))
              case first =>
                have H2 := hH.out.re (L' := .blk mb (bv 6 x.ps) 61 :: MS p a3 c3 b3 z _) (.step (.there (.there (.there (.here _ _)))) (.same _))
                have H3 := H2.setCell nn (.bool true)
                rw [bv_set, ← hzp'.out] at H3
                have hH3 := Lib.hid (H3.re (L' := JoinsP p z mb l m (some ⟨lb, lo, none⟩) cc vb (.slice va m vc) w [.old w no] a3 c3 b3) (.step (.there (.here _ _)) (.step (.there (.here _ _)) (.step (.there (.here _ _)) (.same _)))))
                clear H2 H3
                by_cases h5 : (nn : Int) = 5
                · have h5b : ((nn : Int) == 5) = true := by simpa using h5
                  have hcn := Lib.hid (hzc'.out.trans (if_pos h5))
                  clear h5
                  go_wp2_with fail
                  go_meet
                  case rel => exact ⟨by rw [hcn.out], hH3.out⟩
                · have h5b : ((nn : Int) == 5) = false := by simpa using h5
                  have hcn := Lib.hid (hzc'.out.trans (if_neg h5))
                  clear h5
                  go_wp2_with fail
                  go_meet
                  case rel => exact ⟨by rw [hcn.out], hH3.out⟩
              case rest =>
                clear hH hc0 hf0
                obtain ⟨rfl, H⟩ := hcut
                have hrd := Lib.hid (OwnK.rdI (show OwnK _ 0 3 1 (.slice (some ⟨lb, lo, none⟩) m cc) m (iv l) from H.ownOf (by unfold JoinsP; exact (by first | exact .here _ _ | exact .there (.here _ _) | exact .there (.there (.here _ _)) | exact .there (.there (.there (.here _ _))) | exact .there (.there (.there (.there (.here _ _)))) | exact .there (.there (.there (.there (.there (.here _ _))))) | exact .there (.there (.there (.there (.there (.there (.here _ _)))))) | exact .there (.there (.there (.there (.there (.there (.there (.here _ _))))))) | exact .there (.there (.there (.there (.there (.there (.there (.there (.here _ _)))))))) | exact .there (.there (.there (.there (.there (.there (.there (.there (.there (.here _ _))))))))) | exact .there (.there (.there (.there (.there (.there (.there (.there (.there (.there (.here _ _)))))))))) | exact .there (.there (.there (.there (.there (.there (.there (.there (.there (.there (.there (.here _ _))))))))))) | exact .there (.there (.there (.there (.there (.there (.there (.there (.there (.there (.there (.there (.here _ _)))))))))))) | exact .there (.there (.there (.there (.there (.there (.there (.there (.there (.there (.there (.there (.there (.here _ _))))))))))))))))).2.2
                have hmt := Lib.hid (fun (i : Nat) (hi : i < 6) => H.cell (b := mb) (o := i) (show Pull _ (.blk mb (bv 6 z.ps) 61) _ from by unfold JoinsP; exact (by first | exact .here _ _ | exact .there (.here _ _) | exact .there (.there (.here _ _)) | exact .there (.there (.there (.here _ _))) | exact .there (.there (.there (.there (.here _ _)))) | exact .there (.there (.there (.there (.there (.here _ _))))) | exact .there (.there (.there (.there (.there (.there (.here _ _)))))) | exact .there (.there (.there (.there (.there (.there (.there (.here _ _))))))) | exact .there (.there (.there (.there (.there (.there (.there (.there (.here _ _)))))))) | exact .there (.there (.there (.there (.there (.there (.there (.there (.there (.here _ _))))))))) | exact .there (.there (.there (.there (.there (.there (.there (.there (.there (.there (.here _ _)))))))))) | exact .there (.there (.there (.there (.there (.there (.there (.there (.there (.there (.there (.here _ _))))))))))) | exact .there (.there (.there (.there (.there (.there (.there (.there (.there (.there (.there (.there (.here _ _)))))))))))) | exact .there (.there (.there (.there (.there (.there (.there (.there (.there (.there (.there (.there (.there (.here _ _))))))))))))))) (bv_get z.ps hi))
                have m5 := hmt.out 5 (by omega)
                have cR := Lib.hid (fun (b : Bool) (hb : (z.ps 5 && l.all z.ps) = b) => readyK (show SL _ (MS p a3 c3 b3 z _) from H) hzok'.out.n1 (by have := hzok'.out.len; omega) (hJz'.out.ready hb))
                clear H
                obtain ⟨b5, hb5⟩ : ∃ b, z.ps (5 : Int) = b := ⟨_, rfl⟩
                rw [show z.ps ((5 : Nat) : Int) = b5 from hb5] at m5
                rw [hb5] at cR
                have hb5' := Lib.hid hb5
                clear hb5
                go_wp2_with fail
                go_loop [147, 23] (fun i t => ∃ j : Nat, j ≤ m ∧ i = .int .i64 j ∧ t = .bool (b5 && (l.take j).all z.ps)) (fun i _ => m - (intOf i).toNat)
                case atStart => exact ⟨0, by omega, rfl, by simp⟩
                case round =>
                  obtain ⟨j, hj, rfl, rfl⟩ := hrel
                  by_cases hjm : j < m
                  · have hjl : j < l.length := by rw [hLl.out]; exact hjm
                    obtain ⟨lb', lo', hlb, hcl⟩ := hrd.out.cell hjl
                    cases hlb
                    have htk := List.take_succ_eq_append_getElem hjl
                    have hyr := hll0.out _ (List.getElem_mem hjl)
                    generalize l[j]'hjl = y at *
                    obtain ⟨yn, rfl⟩ : ∃ yn : Nat, y = yn := ⟨y.toNat, by omega⟩
                    have hyn : yn < 6 := by omega
                    have hmc := hmt.out yn hyn
                    obtain ⟨e2, he2⟩ : ∃ e, z.ps (yn : Int) = e := ⟨_, rfl⟩
                    obtain ⟨e1, he1⟩ : ∃ e, (b5 && (l.take j).all z.ps) = e := ⟨_, rfl⟩
                    rw [he2] at hmc
                    have hnx := Lib.hid (show (b5 && (l.take (j + 1)).all z.ps) = (e1 && e2) from by
                      rw [htk, ← he1, ← he2, List.all_append, List.all_cons, List.all_nil, Bool.and_true, Bool.and_assoc])
                    rw [he1]
                    clear he1 he2 htk hyr
                    cases e1
                    · go_wp2_with fail
                      go_round
                      case rel => exact ⟨j + 1, by omega, by go_num, by rw [hnx.out]; simp⟩
                      case measure => (simp [intOf]; try omega)
                    · go_wp2_with fail
                      go_round
                      case rel => exact ⟨j + 1, by omega, by go_num, by rw [hnx.out]; simp⟩
                      case measure => (simp [intOf]; try omega)
                  obtain rfl : m = j := by omega
                  have hall : (b5 && (l.take m).all z.ps) = (b5 && l.all z.ps) := by rw [← hLl.out, List.take_length]
                  rw [hall]
                  clear hall
                  obtain ⟨bb, hbb⟩ : ∃ b, (b5 && l.all z.ps) = b := ⟨_, rfl⟩
                  rw [hbb]
                  have c := Lib.hid (cR.out bb hbb)
                  clear cR hbb m5
                  cases bb
                  · go_wp2_with fail
                    refine c.out.mono ?_
                    rintro r W15 ⟨rfl, H⟩
                    have hH := Lib.hid H
                    clear H c
                    go_wp2_with fail
                    go_roundw
                    case rel => exact ⟨k + 1, z, by omega, by go_num, rfl, hzok'.out, hJz'.out, _, _, _, hH.out⟩
                    case measure => (simp [intOf]; try omega)
                  · go_wp2_with fail
                    refine c.out.mono ?_
                    rintro r W15 ⟨rfl, H⟩
                    have hH := Lib.hid H
                    clear H c
                    go_wp2_with fail
                    go_roundw
                    case rel => exact ⟨k + 1, z, by omega, by go_num, rfl, hzok'.out, hJz'.out, _, _, _, hH.out⟩
                    case measure => (simp [intOf]; try omega)
          · have hcall := hJ'.out.no hj
            have hzok' := hx'
            have hJz' := hJ'
            obtain ⟨z, hz⟩ : ∃ z, x = z := ⟨_, rfl⟩
            rw [hz] at hcall hzok' hJz'
            have way : Hid (decide (A ∈ l) = false ∨ (decide (A ∈ l) = true ∧ N < 0)) := Lib.hid (by
              by_cases h : A ∈ l
              · right; exact ⟨decide_eq_true h, by have : ¬ 0 ≤ N := fun hc => hj ⟨h, hc⟩; omega⟩
              · left; exact decide_eq_false h)
            subst hz
            clear hj
            have v0 := hH1.out.cell (b := vb) (o := 0) (show Pull _ (.blk vb [.int .u32 4, .int .i64 0, .slice va m vc] 34) _ from by unfold JoinsP; exact (by first | exact .here _ _ | exact .there (.here _ _) | exact .there (.there (.here _ _)) | exact .there (.there (.there (.here _ _))) | exact .there (.there (.there (.there (.here _ _)))) | exact .there (.there (.there (.there (.there (.here _ _))))) | exact .there (.there (.there (.there (.there (.there (.here _ _)))))) | exact .there (.there (.there (.there (.there (.there (.there (.here _ _))))))) | exact .there (.there (.there (.there (.there (.there (.there (.there (.here _ _)))))))) | exact .there (.there (.there (.there (.there (.there (.there (.there (.there (.here _ _))))))))) | exact .there (.there (.there (.there (.there (.there (.there (.there (.there (.there (.here _ _)))))))))) | exact .there (.there (.there (.there (.there (.there (.there (.there (.there (.there (.there (.here _ _))))))))))) | exact .there (.there (.there (.there (.there (.there (.there (.there (.there (.there (.there (.there (.here _ _)))))))))))) | exact .there (.there (.there (.there (.there (.there (.there (.there (.there (.there (.there (.there (.there (.here _ _))))))))))))))) rfl
            have v1 := hH1.out.cell (b := vb) (o := 1) (show Pull _ (.blk vb [.int .u32 4, .int .i64 0, .slice va m vc] 34) _ from by unfold JoinsP; exact (by first | exact .here _ _ | exact .there (.here _ _) | exact .there (.there (.here _ _)) | exact .there (.there (.there (.here _ _))) | exact .there (.there (.there (.there (.here _ _)))) | exact .there (.there (.there (.there (.there (.here _ _))))) | exact .there (.there (.there (.there (.there (.there (.here _ _)))))) | exact .there (.there (.there (.there (.there (.there (.there (.here _ _))))))) | exact .there (.there (.there (.there (.there (.there (.there (.there (.here _ _)))))))) | exact .there (.there (.there (.there (.there (.there (.there (.there (.there (.here _ _))))))))) | exact .there (.there (.there (.there (.there (.there (.there (.there (.there (.there (.here _ _)))))))))) | exact .there (.there (.there (.there (.there (.there (.there (.there (.there (.there (.there (.here _ _))))))))))) | exact .there (.there (.there (.there (.there (.there (.there (.there (.there (.there (.there (.there (.here _ _)))))))))))) | exact .there (.there (.there (.there (.there (.there (.there (.there (.there (.there (.there (.there (.there (.here _ _))))))))))))))) rfl
            have c := Lib.hid (joinedK (show SL w10 (MS p a3 c3 b3 x _) from hH1.out) hx'.out.n1 (by have := hx'.out.len; omega) A 4 0 N (e := 240) (y := x) hcall)
            clear hcall
            go_wp2_with fail
            refine c.out.mono ?_
            rintro r W11 ⟨rfl, H⟩
            clear c v0 v1 hH1
            have c := Lib.hid (epoch_c H 3 0)
            clear H
            go_wp2_with fail
            refine c.out.mono ?_
            rintro r W12 ⟨rfl, H⟩
            clear c
            have c := Lib.hid (joinedK H hzok'.out.n1 (by have := hzok'.out.len; omega) A 3 0 N (e := 241) (y := x) (hJz'.out.other _ _))
            clear H
            go_wp2_with fail
            refine c.out.mono ?_
            rintro r W13 ⟨rfl, H⟩
            clear c
            have hrd := Lib.hid (OwnK.rdI (show OwnK W13 0 3 1 (.slice aa m cc) m (iv l) from H.ownOf (by first | exact .here _ _ | exact .there (.here _ _) | exact .there (.there (.here _ _)) | exact .there (.there (.there (.here _ _))) | exact .there (.there (.there (.there (.here _ _)))) | exact .there (.there (.there (.there (.there (.here _ _))))) | exact .there (.there (.there (.there (.there (.there (.here _ _)))))) | exact .there (.there (.there (.there (.there (.there (.there (.here _ _))))))) | exact .there (.there (.there (.there (.there (.there (.there (.there (.here _ _)))))))) | exact .there (.there (.there (.there (.there (.there (.there (.there (.there (.here _ _))))))))) | exact .there (.there (.there (.there (.there (.there (.there (.there (.there (.there (.here _ _)))))))))) | exact .there (.there (.there (.there (.there (.there (.there (.there (.there (.there (.there (.here _ _))))))))))) | exact .there (.there (.there (.there (.there (.there (.there (.there (.there (.there (.there (.there (.here _ _)))))))))))) | exact .there (.there (.there (.there (.there (.there (.there (.there (.there (.there (.there (.there (.there (.here _ _)))))))))))))))).2.2
            obtain ⟨lb, lo, rfl⟩ : ∃ lb lo, aa = some ⟨lb, lo, none⟩ := by
              have h0 : 0 < l.length := rising_pos hlr.out
              obtain ⟨lb, lo, h1, -⟩ := hrd.out.cell h0
              exact ⟨lb, lo, h1⟩
            have hH := Lib.hid H
            clear H
            go_wp2_with fail
            go_loop [111, 21] (fun i t => ∃ j : Nat, j ≤ m ∧ i = .int .i64 j ∧ t = .bool (decide (A ∈ l.take j))) (fun i _ => m - (intOf i).toNat)
            case atStart => exact ⟨0, by omega, rfl, by simp⟩
            case round =>
              obtain ⟨j, hj, rfl, rfl⟩ := hrel
              by_cases hjm : j < m
              · have hjl : j < l.length := by rw [hLl.out]; exact hjm
                obtain ⟨lb', lo', hlb, hcl⟩ := hrd.out.cell hjl
                cases hlb
                have htk := List.take_succ_eq_append_getElem hjl
                generalize l[j]'hjl = y at *
                obtain ⟨e1, he1⟩ : ∃ e, decide (A ∈ l.take j) = e := ⟨_, rfl⟩
                obtain ⟨e2, he2⟩ : ∃ e, (y == A) = e := ⟨_, rfl⟩
                have hnx := Lib.hid (show decide (A ∈ l.take (j + 1)) = (e1 || e2) from by rw [htk, ← he1, ← he2]; exact mem_snoc _ _ _)
                rw [he1]
                clear he1 htk
                cases e1
                · go_wp2_with fail
                  go_round
                  case rel => exact ⟨j + 1, by omega, by go_num, by rw [hnx.out]; simp⟩
                  case measure => (simp [intOf]; try omega)
                · go_wp2_with fail
                  go_round
                  case rel => exact ⟨j + 1, by omega, by go_num, by rw [hnx.out]; simp⟩
                  case measure => (simp [intOf]; try omega)
              obtain rfl : m = j := by omega
              have ein : decide (A ∈ l.take m) = decide (A ∈ l) := by rw [← hLl.out, List.take_length]
              rw [ein]
              clear ein
              have hHx := Lib.hid (show SL W13 (JoinsP p x mb l m (some ⟨lb, lo, none⟩) cc vb (.slice va m vc) w [.old w no] a3 c3 b3) from hH.out)
              clear hH
              rcases way.out with hw | ⟨hw, hNn⟩
              · rw [hw]
                have H := hHx.out
                clear hw way hHx
                have hrd := Lib.hid (OwnK.rdI (show OwnK _ 0 3 1 (.slice (some ⟨lb, lo, none⟩) m cc) m (iv l) from H.ownOf (by unfold JoinsP; exact (by first | exact .here _ _ | exact .there (.here _ _) | exact .there (.there (.here _ _)) | exact .there (.there (.there (.here _ _))) | exact .there (.there (.there (.there (.here _ _)))) | exact .there (.there (.there (.there (.there (.here _ _))))) | exact .there (.there (.there (.there (.there (.there (.here _ _)))))) | exact .there (.there (.there (.there (.there (.there (.there (.here _ _))))))) | exact .there (.there (.there (.there (.there (.there (.there (.there (.here _ _)))))))) | exact .there (.there (.there (.there (.there (.there (.there (.there (.there (.here _ _))))))))) | exact .there (.there (.there (.there (.there (.there (.there (.there (.there (.there (.here _ _)))))))))) | exact .there (.there (.there (.there (.there (.there (.there (.there (.there (.there (.there (.here _ _))))))))))) | exact .there (.there (.there (.there (.there (.there (.there (.there (.there (.there (.there (.there (.here _ _)))))))))))) | exact .there (.there (.there (.there (.there (.there (.there (.there (.there (.there (.there (.there (.there (.here _ _))))))))))))))))).2.2
                have hmt := Lib.hid (fun (i : Nat) (hi : i < 6) => H.cell (b := mb) (o := i) (show Pull _ (.blk mb (bv 6 x.ps) 61) _ from by unfold JoinsP; exact (by first | exact .here _ _ | exact .there (.here _ _) | exact .there (.there (.here _ _)) | exact .there (.there (.there (.here _ _))) | exact .there (.there (.there (.there (.here _ _)))) | exact .there (.there (.there (.there (.there (.here _ _))))) | exact .there (.there (.there (.there (.there (.there (.here _ _)))))) | exact .there (.there (.there (.there (.there (.there (.there (.here _ _))))))) | exact .there (.there (.there (.there (.there (.there (.there (.there (.here _ _)))))))) | exact .there (.there (.there (.there (.there (.there (.there (.there (.there (.here _ _))))))))) | exact .there (.there (.there (.there (.there (.there (.there (.there (.there (.there (.here _ _)))))))))) | exact .there (.there (.there (.there (.there (.there (.there (.there (.there (.there (.there (.here _ _))))))))))) | exact .there (.there (.there (.there (.there (.there (.there (.there (.there (.there (.there (.there (.here _ _)))))))))))) | exact .there (.there (.there (.there (.there (.there (.there (.there (.there (.there (.there (.there (.there (.here _ _))))))))))))))) (bv_get x.ps hi))
                have m5 := hmt.out 5 (by omega)
                have cR := Lib.hid (fun (b : Bool) (hb : (x.ps 5 && l.all x.ps) = b) => readyK (show SL _ (MS p a3 c3 b3 x _) from H) hzok'.out.n1 (by have := hzok'.out.len; omega) (hJz'.out.ready hb))
                clear H
                obtain ⟨b5, hb5⟩ : ∃ b, x.ps (5 : Int) = b := ⟨_, rfl⟩
                rw [show x.ps ((5 : Nat) : Int) = b5 from hb5] at m5
                rw [hb5] at cR
                have hb5' := Lib.hid hb5
                clear hb5
                go_wp2_with fail
                go_loop [147, 23] (fun i t => ∃ j : Nat, j ≤ m ∧ i = .int .i64 j ∧ t = .bool (b5 && (l.take j).all x.ps)) (fun i _ => m - (intOf i).toNat)
                case atStart => exact ⟨0, by omega, rfl, by simp⟩
                case round =>
                  obtain ⟨j, hj, rfl, rfl⟩ := hrel
                  by_cases hjm : j < m
                  · have hjl : j < l.length := by rw [hLl.out]; exact hjm
                    obtain ⟨lb', lo', hlb, hcl⟩ := hrd.out.cell hjl
                    cases hlb
                    have htk := List.take_succ_eq_append_getElem hjl
                    have hyr := hll0.out _ (List.getElem_mem hjl)
                    generalize l[j]'hjl = y at *
                    obtain ⟨yn, rfl⟩ : ∃ yn : Nat, y = yn := ⟨y.toNat, by omega⟩
                    have hyn : yn < 6 := by omega
                    have hmc := hmt.out yn hyn
                    obtain ⟨e2, he2⟩ : ∃ e, x.ps (yn : Int) = e := ⟨_, rfl⟩
                    obtain ⟨e1, he1⟩ : ∃ e, (b5 && (l.take j).all x.ps) = e := ⟨_, rfl⟩
                    rw [he2] at hmc
                    have hnx := Lib.hid (show (b5 && (l.take (j + 1)).all x.ps) = (e1 && e2) from by
                      rw [htk, ← he1, ← he2, List.all_append, List.all_cons, List.all_nil, Bool.and_true, Bool.and_assoc])
                    rw [he1]
                    clear he1 he2 htk hyr
                    cases e1
                    · go_wp2_with fail
                      go_round
                      case rel => exact ⟨j + 1, by omega, by go_num, by rw [hnx.out]; simp⟩
                      case measure => (simp [intOf]; try omega)
                    · go_wp2_with fail
                      go_round
                      case rel => exact ⟨j + 1, by omega, by go_num, by rw [hnx.out]; simp⟩
                      case measure => (simp [intOf]; try omega)
                  obtain rfl : m = j := by omega
                  have hall : (b5 && (l.take m).all x.ps) = (b5 && l.all x.ps) := by rw [← hLl.out, List.take_length]
                  rw [hall]
                  clear hall
                  obtain ⟨bb, hbb⟩ : ∃ b, (b5 && l.all x.ps) = b := ⟨_, rfl⟩
                  rw [hbb]
                  have c := Lib.hid (cR.out bb hbb)
                  clear cR hbb m5
                  cases bb
                  · go_wp2_with fail
                    refine c.out.mono ?_
                    rintro r W15 ⟨rfl, H⟩
                    have hH := Lib.hid H
                    clear H c
                    go_wp2_with fail
                    go_roundw
                    case rel => exact ⟨k + 1, x, by omega, by go_num, rfl, hzok'.out, hJz'.out, _, _, _, hH.out⟩
                    case measure => (simp [intOf]; try omega)
                  · go_wp2_with fail
                    refine c.out.mono ?_
                    rintro r W15 ⟨rfl, H⟩
                    have hH := Lib.hid H
                    clear H c
                    go_wp2_with fail
                    go_roundw
                    case rel => exact ⟨k + 1, x, by omega, by go_num, rfl, hzok'.out, hJz'.out, _, _, _, hH.out⟩
                    case measure => (simp [intOf]; try omega)
              · rw [hw]
                have H := hHx.out
                clear hw way hHx
                have hrd := Lib.hid (OwnK.rdI (show OwnK _ 0 3 1 (.slice (some ⟨lb, lo, none⟩) m cc) m (iv l) from H.ownOf (by unfold JoinsP; exact (by first | exact .here _ _ | exact .there (.here _ _) | exact .there (.there (.here _ _)) | exact .there (.there (.there (.here _ _))) | exact .there (.there (.there (.there (.here _ _)))) | exact .there (.there (.there (.there (.there (.here _ _))))) | exact .there (.there (.there (.there (.there (.there (.here _ _)))))) | exact .there (.there (.there (.there (.there (.there (.there (.here _ _))))))) | exact .there (.there (.there (.there (.there (.there (.there (.there (.here _ _)))))))) | exact .there (.there (.there (.there (.there (.there (.there (.there (.there (.here _ _))))))))) | exact .there (.there (.there (.there (.there (.there (.there (.there (.there (.there (.here _ _)))))))))) | exact .there (.there (.there (.there (.there (.there (.there (.there (.there (.there (.there (.here _ _))))))))))) | exact .there (.there (.there (.there (.there (.there (.there (.there (.there (.there (.there (.there (.here _ _)))))))))))) | exact .there (.there (.there (.there (.there (.there (.there (.there (.there (.there (.there (.there (.there (.here _ _))))))))))))))))).2.2
                have hmt := Lib.hid (fun (i : Nat) (hi : i < 6) => H.cell (b := mb) (o := i) (show Pull _ (.blk mb (bv 6 x.ps) 61) _ from by unfold JoinsP; exact (by first | exact .here _ _ | exact .there (.here _ _) | exact .there (.there (.here _ _)) | exact .there (.there (.there (.here _ _))) | exact .there (.there (.there (.there (.here _ _)))) | exact .there (.there (.there (.there (.there (.here _ _))))) | exact .there (.there (.there (.there (.there (.there (.here _ _)))))) | exact .there (.there (.there (.there (.there (.there (.there (.here _ _))))))) | exact .there (.there (.there (.there (.there (.there (.there (.there (.here _ _)))))))) | exact .there (.there (.there (.there (.there (.there (.there (.there (.there (.here _ _))))))))) | exact .there (.there (.there (.there (.there (.there (.there (.there (.there (.there (.here _ _)))))))))) | exact .there (.there (.there (.there (.there (.there (.there (.there (.there (.there (.there (.here _ _))))))))))) | exact .there (.there (.there (.there (.there (.there (.there (.there (.there (.there (.there (.there (.here _ _)))))))))))) | exact .there (.there (.there (.there (.there (.there (.there (.there (.there (.there (.there (.there (.there (.here _ _))))))))))))))) (bv_get x.ps hi))
                have m5 := hmt.out 5 (by omega)
                have cR := Lib.hid (fun (b : Bool) (hb : (x.ps 5 && l.all x.ps) = b) => readyK (show SL _ (MS p a3 c3 b3 x _) from H) hzok'.out.n1 (by have := hzok'.out.len; omega) (hJz'.out.ready hb))
                clear H
                obtain ⟨b5, hb5⟩ : ∃ b, x.ps (5 : Int) = b := ⟨_, rfl⟩
                rw [show x.ps ((5 : Nat) : Int) = b5 from hb5] at m5
                rw [hb5] at cR
                have hb5' := Lib.hid hb5
                clear hb5
                go_wp2_with fail
                go_loop [147, 23] (fun i t => ∃ j : Nat, j ≤ m ∧ i = .int .i64 j ∧ t = .bool (b5 && (l.take j).all x.ps)) (fun i _ => m - (intOf i).toNat)
                case atStart => exact ⟨0, by omega, rfl, by simp⟩
                case round =>
                  obtain ⟨j, hj, rfl, rfl⟩ := hrel
                  by_cases hjm : j < m
                  · have hjl : j < l.length := by rw [hLl.out]; exact hjm
                    obtain ⟨lb', lo', hlb, hcl⟩ := hrd.out.cell hjl
                    cases hlb
                    have htk := List.take_succ_eq_append_getElem hjl
                    have hyr := hll0.out _ (List.getElem_mem hjl)
                    generalize l[j]'hjl = y at *
                    obtain ⟨yn, rfl⟩ : ∃ yn : Nat, y = yn := ⟨y.toNat, by omega⟩
                    have hyn : yn < 6 := by omega
                    have hmc := hmt.out yn hyn
                    obtain ⟨e2, he2⟩ : ∃ e, x.ps (yn : Int) = e := ⟨_, rfl⟩
                    obtain ⟨e1, he1⟩ : ∃ e, (b5 && (l.take j).all x.ps) = e := ⟨_, rfl⟩
                    rw [he2] at hmc
                    have hnx := Lib.hid (show (b5 && (l.take (j + 1)).all x.ps) = (e1 && e2) from by
                      rw [htk, ← he1, ← he2, List.all_append, List.all_cons, List.all_nil, Bool.and_true, Bool.and_assoc])
                    rw [he1]
                    clear he1 he2 htk hyr
                    cases e1
                    · go_wp2_with fail
                      go_round
                      case rel => exact ⟨j + 1, by omega, by go_num, by rw [hnx.out]; simp⟩
                      case measure => (simp [intOf]; try omega)
                    · go_wp2_with fail
                      go_round
                      case rel => exact ⟨j + 1, by omega, by go_num, by rw [hnx.out]; simp⟩
                      case measure => (simp [intOf]; try omega)
                  obtain rfl : m = j := by omega
                  have hall : (b5 && (l.take m).all x.ps) = (b5 && l.all x.ps) := by rw [← hLl.out, List.take_length]
                  rw [hall]
                  clear hall
                  obtain ⟨bb, hbb⟩ : ∃ b, (b5 && l.all x.ps) = b := ⟨_, rfl⟩
                  rw [hbb]
                  have c := Lib.hid (cR.out bb hbb)
                  clear cR hbb m5
                  cases bb
                  · go_wp2_with fail
                    refine c.out.mono ?_
                    rintro r W15 ⟨rfl, H⟩
                    have hH := Lib.hid H
                    clear H c
                    go_wp2_with fail
                    go_roundw
                    case rel => exact ⟨k + 1, x, by omega, by go_num, rfl, hzok'.out, hJz'.out, _, _, _, hH.out⟩
                    case measure => (simp [intOf]; try omega)
                  · go_wp2_with fail
                    refine c.out.mono ?_
                    rintro r W15 ⟨rfl, H⟩
                    have hH := Lib.hid H
                    clear H c
                    go_wp2_with fail
                    go_roundw
                    case rel => exact ⟨k + 1, x, by omega, by go_num, rfl, hzok'.out, hJz'.out, _, _, _, hH.out⟩
                    case measure => (simp [intOf]; try omega)
        · obtain rfl : k = n := by omega
          have hk := Lib.hid (H.kp (show Pull _ (.old w no) _ from by unfold JoinsP; exact (by first | exact .here _ _ | exact .there (.here _ _) | exact .there (.there (.here _ _)) | exact .there (.there (.there (.here _ _))) | exact .there (.there (.there (.there (.here _ _)))) | exact .there (.there (.there (.there (.there (.here _ _))))) | exact .there (.there (.there (.there (.there (.there (.here _ _)))))) | exact .there (.there (.there (.there (.there (.there (.there (.here _ _))))))) | exact .there (.there (.there (.there (.there (.there (.there (.there (.here _ _)))))))) | exact .there (.there (.there (.there (.there (.there (.there (.there (.there (.here _ _))))))))) | exact .there (.there (.there (.there (.there (.there (.there (.there (.there (.there (.here _ _)))))))))) | exact .there (.there (.there (.there (.there (.there (.there (.there (.there (.there (.there (.here _ _))))))))))) | exact .there (.there (.there (.there (.there (.there (.there (.there (.there (.there (.there (.there (.here _ _)))))))))))) | exact .there (.there (.there (.there (.there (.there (.there (.there (.there (.there (.there (.there (.there (.here _ _))))))))))))))))
          clear H
          go_wp2_with fail
          go_ret
          exact ⟨rfl, hk.out⟩
end Go.Proofs.Ytaibdcglhibglaa
