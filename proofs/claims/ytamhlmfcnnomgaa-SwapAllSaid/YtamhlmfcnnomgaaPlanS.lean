/- The reference's Some. -/
import Derived.Test.YtamhlmfcnnomgaaPlanA
import Derived.Test.YtamhlmfcnnomgaaAlive
namespace Go.Proofs.Ytamhlmfcnnomgaa
open Go.RowKit
set_option linter.unusedVariables false

theorem OwnK.rdM3 {w : World} {base : Nat} {a : Option Addr} {n m cap : Nat} {l : List Mv} {e : TypeId} (h : OwnK w base e 5 (.slice a n cap) m (mvs l)) (hm : l.length = m) : RdM w a l := by
  subst hm; exact h.rdM
theorem SL.ofOwn {w w' : World} {L : List Pc} {e : TypeId} {k n : Nat} {v : Value} {xs : List Value} (H : SL w L) (hk : Kp no w w') (ho : OwnK w' w.heap.size e k v n xs) : SL w' (.own e k v n xs :: L) :=
  H.new hk (show OwnK w' 0 e k v n xs from ⟨ho.1, ho.2.elim .inl (fun ⟨g, cap, cur, hv, hb, r⟩ => .inr ⟨g, cap, cur, hv, Nat.zero_le _, r⟩)⟩) fun b hb => (ho.block hb).1

set_option maxRecDepth 100000 in
set_option maxHeartbeats 16000000 in
theorem rsome_sends (mode p s place round : Int) {L : List Pc} {w : World} (H0 : SL w L) :
    Calls Try.prog 22 #[.int .i64 mode, .int .i64 p, .int .i64 s, .int .i64 place, .int .i64 round, .bool true] w fun e w' =>
    ∃ v, e = .returned (.tuple #[v, .int .i64 (askE mode p s place round)]) ∧ SL w' (.own 31 5 v (askL (frB place) mode p s place round).length (mvs (askL (frB place) mode p s place round)) :: L) := by
  have hmy := Lib.hid (fun w => rmay_c mode p s w)
  have Hn := H0.pure (q := .own 31 5 (.slice none 0 0) 0 []) (OwnK.nil _ _ _ _) (fun b h => by cases h)
  by_cases hok : okP mode p s
  · rw [decide_eq_true hok] at hmy
    obtain ⟨M, rfl⟩ := Int.eq_ofNat_of_zero_le (show 0 ≤ mode by unfold okP at hok; omega)
    obtain ⟨Pn, rfl⟩ := Int.eq_ofNat_of_zero_le (show 0 ≤ p by unfold okP at hok; omega)
    obtain ⟨T, rfl⟩ := Int.eq_ofNat_of_zero_le (show 0 ≤ s by unfold okP at hok; omega)
    have hm : M = 1 ∨ M = 2 := by unfold okP at hok; omega
    have h1 : 1 ≤ Pn := by unfold okP at hok; omega
    have h2 : Pn ≤ 64 := by unfold okP at hok; omega
    have h3 : T ≤ 4096 := by unfold okP at hok; omega
    have hrr := Lib.hid (fun w => rrounds_c M Pn w hm h1 h2)
    have hri := roundsI_nat M Pn h1 h2
    have hpl := Lib.hid (fun L w (h : SL w L) => plan_c M Pn T hm h1 h2 h3 h)
    have hr7 := rounds_le M Pn h1 h2
    by_cases hbad : place < 0 ∨ (Pn : Int) ≤ place ∨ round < 0 ∨ (roundsOf M Pn : Int) - 1 < round
    · have hE : askE M Pn T place round = 2 := may_arg hok (by rw [hri]; exact hbad)
      have hL : askL (frB place) M Pn T place round = [] := by unfold askL; rw [hE, if_neg (by decide)]
      rw [hE, hL]
      have hH := Lib.hid Hn
      clear Hn H0 hE hL hok hpl hri hm
      generalize roundsOf M Pn = Q at *
      have hcs : place < 0 ∨ (¬ place < 0 ∧ (Pn : Int) ≤ place) ∨ (¬ place < 0 ∧ ¬ (Pn : Int) ≤ place ∧ round < 0) ∨ (¬ place < 0 ∧ ¬ (Pn : Int) ≤ place ∧ ¬ round < 0 ∧ (Q : Int) ≤ round) := by omega
      clear hbad
      rcases hcs with b1 | ⟨b1, b2⟩ | ⟨b1, b2, b3⟩ | ⟨b1, b2, b3, b4⟩
      all_goals
        go_enter Try.func22, Try.ntmps22
        go_wp2_with fail
        refine (hmy.out _).mono ?_
        rintro e w' ⟨rfl, rfl⟩
        go_wp2_with fail
        refine (hrr.out _).mono ?_
        rintro e w' ⟨rfl, rfl⟩
        go_wp2_with fail
        go_ret2
        exact ⟨_, rfl, hH.out⟩
    · obtain ⟨pl, rfl⟩ := Int.eq_ofNat_of_zero_le (show 0 ≤ place by omega)
      obtain ⟨rd, rfl⟩ := Int.eq_ofNat_of_zero_le (show 0 ≤ round by omega)
      have hE : askE M Pn T pl rd = 0 := may_ok hok (by rw [hri]; exact hbad)
      have hL : askL (frB pl) M Pn T pl rd = (movesOf M Pn T rd).filter (frB pl) := by unfold askL; rw [hE, if_pos rfl]; simp
      rw [hE, hL]
      have hplP : pl < Pn := by omega
      have hrdQ : rd < roundsOf M Pn := by omega
      have hml : (movesOf M Pn T rd).length ≤ 4096 := by
        have := pre_len M Pn T rd Pn h1
        have : Pn * Pn ≤ 64 * 64 := Nat.mul_le_mul h2 h2
        unfold movesOf; omega
      have hH0 := Lib.hid H0
      clear H0 Hn hE hL hok hri hm hbad
      unfold PlanPost at hpl
      have hwm := Lib.hid (fun (S : List (Value × List Mv)) (h : S.map (·.2) = wholeX (movesOf M Pn T) (roundsOf M Pn)) (hS : rd < S.length) => ((row_is h hS (by simpa [wholeX] using hrdQ)).trans (wholeX_at _ hrdQ) : (S[rd]'hS).2 = movesOf M Pn T rd))
      have hwl := Lib.hid (fun (S : List (Value × List Mv)) (h : S.map (·.2) = wholeX (movesOf M Pn T) (roundsOf M Pn)) => (show rd < S.length by have := congrArg List.length h; rw [List.length_map] at this; rw [this]; simpa [wholeX] using hrdQ))
      obtain ⟨Q, hQ⟩ : ∃ Q, roundsOf M Pn = Q := ⟨_, rfl⟩
      rw [hQ] at hrr hpl hr7 hrdQ hwm hwl
      clear hQ
      obtain ⟨l, hl⟩ : ∃ l, movesOf M Pn T rd = l := ⟨_, rfl⟩
      rw [hl] at hml hwm ⊢
      clear hl
      have c1 : ¬ (Pn : Int) ≤ (pl : Int) := by omega
      have c2 : ¬ (Q : Int) ≤ (rd : Int) := by omega
      go_enter Try.func22, Try.ntmps22
      go_wp2_with fail
      refine (hmy.out _).mono ?_
      rintro e w' ⟨rfl, rfl⟩
      go_wp2_with fail
      refine (hrr.out _).mono ?_
      rintro e w' ⟨rfl, rfl⟩
      go_wp2_with fail
      refine (hpl.out _ _ hH0.out).mono ?_
      rintro e w2 ⟨B, C, R, S, rfl, hR, hS, H⟩
      have hSl := hwl.out S hS
      have hrow := hwm.out S hS hSl
      have hn : Hid (SL w2 (.own 31 5 (.slice none 0 0) ((l.take 0).filter (frB pl)).length (mvs ((l.take 0).filter (frB pl))) :: gM C S :: L)) := Lib.hid ((H.tail.pure (q := .own 31 5 (.slice none 0 0) 0 []) (OwnK.nil _ _ _ _) (fun b h => by cases h)))
      clear hpl hrr hmy hR H hH0 hwl hwm hS
      obtain ⟨nl, hnl⟩ : ∃ nl, l.length = nl := ⟨_, rfl⟩
      have hnl' := Lib.hid hnl
      rw [hnl] at hml
      clear hnl
      go_wp2_with fail
      go_loopw [18, 19] (fun v i wr => ∃ (k : Nat) (a : Option Addr) (c : Nat), k ≤ nl ∧ i = .int .i64 (k : Int) ∧ v = .slice a ((l.take k).filter (frB pl)).length c ∧ Hid (SL wr (.own 31 5 v ((l.take k).filter (frB pl)).length (mvs ((l.take k).filter (frB pl))) :: gM C S :: L))) (fun _ i _ => nl - (intOf i).toNat)
      case atStart => exact ⟨0, none, 0, by omega, rfl, rfl, hn⟩
      case round =>
        clear hn
        obtain ⟨k, va, vc, hk, rfl, rfl, hh⟩ := hrel
        have hr := grid_row hh.out (.there (.here _ _)) hSl
        rw [hrow] at hr
        have hc0 := grid_cell hh.out (.there (.here _ _)) hSl
        obtain ⟨v0, hv0⟩ : ∃ v0, (S[rd]'hSl).1 = v0 := ⟨_, rfl⟩
        rw [hv0] at hr hc0
        obtain ⟨ra, rc, rfl, hrc, -⟩ := hr.slice
        rw [hnl'.out] at hc0 hrc
        have hv0' := Lib.hid hv0
        have hfl : ((l.take k).filter (frB pl)).length ≤ 4096 := by
          have := List.length_filter_le (frB pl) (l.take k)
          rw [List.length_take] at this
          omega
        by_cases hkn : k < nl
        · have hkl : k < l.length := by rw [hnl'.out]; exact hkn
          obtain ⟨bl, ol, rfl, z0, z1, z2, z3, z4⟩ := (OwnK.rdM3 (n := l.length) (m := l.length) hr rfl).cells hkl
          have hlt := Lib.hid (List.take_succ_eq_append_getElem hkl)
          obtain ⟨m, hm⟩ : ∃ m, l[k]'hkl = m := ⟨_, rfl⟩
          rw [hm] at z0 z1 z2 z3 z4 hlt
          clear hm hr hv0
          obtain ⟨mr, mf, mt, ma, mb⟩ := m
          dsimp only at z0 z1 z2 z3 z4
          obtain ⟨D, hD⟩ : ∃ D, (l.take k).filter (frB pl) = D := ⟨_, rfl⟩
          rw [hD] at hh hfl ⊢
          have hH := Lib.hid hh.out
          have hHlt := grid_lt hh.out (.there (.here _ _))
          clear hh
          by_cases hyes : (mf : Int) = (pl : Int)
          · have hfs : (l.take (k + 1)).filter (frB pl) = D ++ [⟨mr, mf, mt, ma, mb⟩] := by
              rw [hlt.out, List.filter_append, hD]
              congr 1
              simp [frB, hyes]
            have hfs' := Lib.hid hfs
            have HA := (hH.out.alloc [.int .i64 mr, .int .i64 mf, .int .i64 mt, .int .i64 ma, .int .i64 mb] 31).alloc [.int .i64 mr, .int .i64 mf, .int .i64 mt, .int .i64 ma, .int .i64 mb] 31
            rw [World.size_alloc] at HA
            have hHA := Lib.hid HA
            dsimp only [List.toArray] at hHA
            obtain ⟨nd, hnd⟩ : ∃ nd, D.length = nd := ⟨_, rfl⟩
            rw [hnd] at hHA hfl hH ⊢
            have hnd' := Lib.hid hnd
            have hy2 : ((mf : Int) == (pl : Int)) = true := by simpa using hyes
            clear HA hfs hyes hlt hD hnd hH
            go_wp2_with (at_builtin; refine sl_app hHA.out rfl _ _ _ rfl elemMv (.slice va nd vc) rfl (.there (.there (.here _ _))) (mvs [⟨mr, mf, mt, ma, mb⟩]) rfl rfl (rd_blkP hHA.out (.here _ _)) (mvs_one _) (by simp only [maxLen]; omega) (by omega) (fun h => by cases h) ?_; intro v1 w4 H1 hnil1; obtain ⟨a1, c1', rfl, -⟩ := OwnK.slice H1.head; have hH1 := Lib.hid H1; clear hHA H1 hnil1)
            go_roundw
            case rel => exact ⟨k + 1, a1, c1', by omega, by go_num, by rw [hfs'.out, List.length_append, hnd'.out]; rfl, Lib.hid (by rw [hfs'.out, List.length_append, hnd'.out, mvs_app]; exact hH1.out.re (.step (.here _ _) (.drop (.drop (.same _)))))⟩
            case measure => (simp [intOf]; try omega)
          · have hfs : (l.take (k + 1)).filter (frB pl) = D := by
              rw [hlt.out, List.filter_append, hD]
              simp [frB, hyes]
            have hfs' := Lib.hid hfs
            have hHA := Lib.hid ((hH.out.alloc [.int .i64 mr, .int .i64 mf, .int .i64 mt, .int .i64 ma, .int .i64 mb] 31).re (.drop (.same _)))
            dsimp only [List.toArray] at hHA
            have hy2 : ((mf : Int) == (pl : Int)) = false := by simpa using hyes
            clear hfs hyes hlt hD hH
            go_wp2_with fail
            go_roundw
            case rel => exact ⟨k + 1, va, vc, by omega, by go_num, by rw [hfs'.out], Lib.hid (by rw [hfs'.out]; exact hHA.out)⟩
            case measure => (simp [intOf]; try omega)
        · obtain rfl : nl = k := by omega
          have htk : l.take nl = l := List.take_of_length_le (by rw [hnl'.out]; exact Nat.le_refl _)
          rw [htk] at hh ⊢
          have hH := Lib.hid hh.out
          clear hh hr hv0
          go_wp2_with fail
          go_ret2
          exact ⟨_, rfl, hH.out.re (.step (.here _ _) (.drop (.same _)))⟩
  · rw [decide_eq_false hok] at hmy
    have hE : askE mode p s place round = 260 := may_ck hok
    have hL : askL (frB place) mode p s place round = [] := by unfold askL; rw [hE, if_neg (by decide)]
    rw [hE, hL]
    have hH := Lib.hid Hn
    clear Hn H0 hE hL hok
    go_enter Try.func22, Try.ntmps22
    go_wp2_with fail
    refine (hmy.out _).mono ?_
    rintro e w' ⟨rfl, rfl⟩
    go_wp2_with fail
    go_ret2
    exact ⟨_, rfl, hH.out⟩

set_option maxRecDepth 100000 in
set_option maxHeartbeats 16000000 in
theorem rsome_hears (mode p s place round : Int) {L : List Pc} {w : World} (H0 : SL w L) :
    Calls Try.prog 22 #[.int .i64 mode, .int .i64 p, .int .i64 s, .int .i64 place, .int .i64 round, .bool false] w fun e w' =>
    ∃ v, e = .returned (.tuple #[v, .int .i64 (askE mode p s place round)]) ∧ SL w' (.own 31 5 v (askL (toB place) mode p s place round).length (mvs (askL (toB place) mode p s place round)) :: L) := by
  have hmy := Lib.hid (fun w => rmay_c mode p s w)
  have Hn := H0.pure (q := .own 31 5 (.slice none 0 0) 0 []) (OwnK.nil _ _ _ _) (fun b h => by cases h)
  by_cases hok : okP mode p s
  · rw [decide_eq_true hok] at hmy
    obtain ⟨M, rfl⟩ := Int.eq_ofNat_of_zero_le (show 0 ≤ mode by unfold okP at hok; omega)
    obtain ⟨Pn, rfl⟩ := Int.eq_ofNat_of_zero_le (show 0 ≤ p by unfold okP at hok; omega)
    obtain ⟨T, rfl⟩ := Int.eq_ofNat_of_zero_le (show 0 ≤ s by unfold okP at hok; omega)
    have hm : M = 1 ∨ M = 2 := by unfold okP at hok; omega
    have h1 : 1 ≤ Pn := by unfold okP at hok; omega
    have h2 : Pn ≤ 64 := by unfold okP at hok; omega
    have h3 : T ≤ 4096 := by unfold okP at hok; omega
    have hrr := Lib.hid (fun w => rrounds_c M Pn w hm h1 h2)
    have hri := roundsI_nat M Pn h1 h2
    have hpl := Lib.hid (fun L w (h : SL w L) => plan_c M Pn T hm h1 h2 h3 h)
    have hr7 := rounds_le M Pn h1 h2
    by_cases hbad : place < 0 ∨ (Pn : Int) ≤ place ∨ round < 0 ∨ (roundsOf M Pn : Int) - 1 < round
    · have hE : askE M Pn T place round = 2 := may_arg hok (by rw [hri]; exact hbad)
      have hL : askL (toB place) M Pn T place round = [] := by unfold askL; rw [hE, if_neg (by decide)]
      rw [hE, hL]
      have hH := Lib.hid Hn
      clear Hn H0 hE hL hok hpl hri hm
      generalize roundsOf M Pn = Q at *
      have hcs : place < 0 ∨ (¬ place < 0 ∧ (Pn : Int) ≤ place) ∨ (¬ place < 0 ∧ ¬ (Pn : Int) ≤ place ∧ round < 0) ∨ (¬ place < 0 ∧ ¬ (Pn : Int) ≤ place ∧ ¬ round < 0 ∧ (Q : Int) ≤ round) := by omega
      clear hbad
      rcases hcs with b1 | ⟨b1, b2⟩ | ⟨b1, b2, b3⟩ | ⟨b1, b2, b3, b4⟩
      all_goals
        go_enter Try.func22, Try.ntmps22
        go_wp2_with fail
        refine (hmy.out _).mono ?_
        rintro e w' ⟨rfl, rfl⟩
        go_wp2_with fail
        refine (hrr.out _).mono ?_
        rintro e w' ⟨rfl, rfl⟩
        go_wp2_with fail
        go_ret2
        exact ⟨_, rfl, hH.out⟩
    · obtain ⟨pl, rfl⟩ := Int.eq_ofNat_of_zero_le (show 0 ≤ place by omega)
      obtain ⟨rd, rfl⟩ := Int.eq_ofNat_of_zero_le (show 0 ≤ round by omega)
      have hE : askE M Pn T pl rd = 0 := may_ok hok (by rw [hri]; exact hbad)
      have hL : askL (toB pl) M Pn T pl rd = (movesOf M Pn T rd).filter (toB pl) := by unfold askL; rw [hE, if_pos rfl]; simp
      rw [hE, hL]
      have hplP : pl < Pn := by omega
      have hrdQ : rd < roundsOf M Pn := by omega
      have hml : (movesOf M Pn T rd).length ≤ 4096 := by
        have := pre_len M Pn T rd Pn h1
        have : Pn * Pn ≤ 64 * 64 := Nat.mul_le_mul h2 h2
        unfold movesOf; omega
      have hH0 := Lib.hid H0
      clear H0 Hn hE hL hok hri hm hbad
      unfold PlanPost at hpl
      have hwm := Lib.hid (fun (S : List (Value × List Mv)) (h : S.map (·.2) = wholeX (movesOf M Pn T) (roundsOf M Pn)) (hS : rd < S.length) => ((row_is h hS (by simpa [wholeX] using hrdQ)).trans (wholeX_at _ hrdQ) : (S[rd]'hS).2 = movesOf M Pn T rd))
      have hwl := Lib.hid (fun (S : List (Value × List Mv)) (h : S.map (·.2) = wholeX (movesOf M Pn T) (roundsOf M Pn)) => (show rd < S.length by have := congrArg List.length h; rw [List.length_map] at this; rw [this]; simpa [wholeX] using hrdQ))
      obtain ⟨Q, hQ⟩ : ∃ Q, roundsOf M Pn = Q := ⟨_, rfl⟩
      rw [hQ] at hrr hpl hr7 hrdQ hwm hwl
      clear hQ
      obtain ⟨l, hl⟩ : ∃ l, movesOf M Pn T rd = l := ⟨_, rfl⟩
      rw [hl] at hml hwm ⊢
      clear hl
      have c1 : ¬ (Pn : Int) ≤ (pl : Int) := by omega
      have c2 : ¬ (Q : Int) ≤ (rd : Int) := by omega
      go_enter Try.func22, Try.ntmps22
      go_wp2_with fail
      refine (hmy.out _).mono ?_
      rintro e w' ⟨rfl, rfl⟩
      go_wp2_with fail
      refine (hrr.out _).mono ?_
      rintro e w' ⟨rfl, rfl⟩
      go_wp2_with fail
      refine (hpl.out _ _ hH0.out).mono ?_
      rintro e w2 ⟨B, C, R, S, rfl, hR, hS, H⟩
      have hSl := hwl.out S hS
      have hrow := hwm.out S hS hSl
      have hn : Hid (SL w2 (.own 31 5 (.slice none 0 0) ((l.take 0).filter (toB pl)).length (mvs ((l.take 0).filter (toB pl))) :: gM C S :: L)) := Lib.hid ((H.tail.pure (q := .own 31 5 (.slice none 0 0) 0 []) (OwnK.nil _ _ _ _) (fun b h => by cases h)))
      clear hpl hrr hmy hR H hH0 hwl hwm hS
      obtain ⟨nl, hnl⟩ : ∃ nl, l.length = nl := ⟨_, rfl⟩
      have hnl' := Lib.hid hnl
      rw [hnl] at hml
      clear hnl
      go_wp2_with fail
      go_loopw [18, 19] (fun v i wr => ∃ (k : Nat) (a : Option Addr) (c : Nat), k ≤ nl ∧ i = .int .i64 (k : Int) ∧ v = .slice a ((l.take k).filter (toB pl)).length c ∧ Hid (SL wr (.own 31 5 v ((l.take k).filter (toB pl)).length (mvs ((l.take k).filter (toB pl))) :: gM C S :: L))) (fun _ i _ => nl - (intOf i).toNat)
      case atStart => exact ⟨0, none, 0, by omega, rfl, rfl, hn⟩
      case round =>
        clear hn
        obtain ⟨k, va, vc, hk, rfl, rfl, hh⟩ := hrel
        have hr := grid_row hh.out (.there (.here _ _)) hSl
        rw [hrow] at hr
        have hc0 := grid_cell hh.out (.there (.here _ _)) hSl
        obtain ⟨v0, hv0⟩ : ∃ v0, (S[rd]'hSl).1 = v0 := ⟨_, rfl⟩
        rw [hv0] at hr hc0
        obtain ⟨ra, rc, rfl, hrc, -⟩ := hr.slice
        rw [hnl'.out] at hc0 hrc
        have hv0' := Lib.hid hv0
        have hfl : ((l.take k).filter (toB pl)).length ≤ 4096 := by
          have := List.length_filter_le (toB pl) (l.take k)
          rw [List.length_take] at this
          omega
        by_cases hkn : k < nl
        · have hkl : k < l.length := by rw [hnl'.out]; exact hkn
          obtain ⟨bl, ol, rfl, z0, z1, z2, z3, z4⟩ := (OwnK.rdM3 (n := l.length) (m := l.length) hr rfl).cells hkl
          have hlt := Lib.hid (List.take_succ_eq_append_getElem hkl)
          obtain ⟨m, hm⟩ : ∃ m, l[k]'hkl = m := ⟨_, rfl⟩
          rw [hm] at z0 z1 z2 z3 z4 hlt
          clear hm hr hv0
          obtain ⟨mr, mf, mt, ma, mb⟩ := m
          dsimp only at z0 z1 z2 z3 z4
          obtain ⟨D, hD⟩ : ∃ D, (l.take k).filter (toB pl) = D := ⟨_, rfl⟩
          rw [hD] at hh hfl ⊢
          have hH := Lib.hid hh.out
          have hHlt := grid_lt hh.out (.there (.here _ _))
          clear hh
          by_cases hyes : (mt : Int) = (pl : Int)
          · have hfs : (l.take (k + 1)).filter (toB pl) = D ++ [⟨mr, mf, mt, ma, mb⟩] := by
              rw [hlt.out, List.filter_append, hD]
              congr 1
              simp [toB, hyes]
            have hfs' := Lib.hid hfs
            have HA := (hH.out.alloc [.int .i64 mr, .int .i64 mf, .int .i64 mt, .int .i64 ma, .int .i64 mb] 31).alloc [.int .i64 mr, .int .i64 mf, .int .i64 mt, .int .i64 ma, .int .i64 mb] 31
            rw [World.size_alloc] at HA
            have hHA := Lib.hid HA
            dsimp only [List.toArray] at hHA
            obtain ⟨nd, hnd⟩ : ∃ nd, D.length = nd := ⟨_, rfl⟩
            rw [hnd] at hHA hfl hH ⊢
            have hnd' := Lib.hid hnd
            have hy2 : ((mt : Int) == (pl : Int)) = true := by simpa using hyes
            clear HA hfs hyes hlt hD hnd hH
            go_wp2_with (at_builtin; refine sl_app hHA.out rfl _ _ _ rfl elemMv (.slice va nd vc) rfl (.there (.there (.here _ _))) (mvs [⟨mr, mf, mt, ma, mb⟩]) rfl rfl (rd_blkP hHA.out (.here _ _)) (mvs_one _) (by simp only [maxLen]; omega) (by omega) (fun h => by cases h) ?_; intro v1 w4 H1 hnil1; obtain ⟨a1, c1', rfl, -⟩ := OwnK.slice H1.head; have hH1 := Lib.hid H1; clear hHA H1 hnil1)
            go_roundw
            case rel => exact ⟨k + 1, a1, c1', by omega, by go_num, by rw [hfs'.out, List.length_append, hnd'.out]; rfl, Lib.hid (by rw [hfs'.out, List.length_append, hnd'.out, mvs_app]; exact hH1.out.re (.step (.here _ _) (.drop (.drop (.same _)))))⟩
            case measure => (simp [intOf]; try omega)
          · have hfs : (l.take (k + 1)).filter (toB pl) = D := by
              rw [hlt.out, List.filter_append, hD]
              simp [toB, hyes]
            have hfs' := Lib.hid hfs
            have hHA := Lib.hid ((hH.out.alloc [.int .i64 mr, .int .i64 mf, .int .i64 mt, .int .i64 ma, .int .i64 mb] 31).re (.drop (.same _)))
            dsimp only [List.toArray] at hHA
            have hy2 : ((mt : Int) == (pl : Int)) = false := by simpa using hyes
            clear hfs hyes hlt hD hH
            go_wp2_with fail
            go_roundw
            case rel => exact ⟨k + 1, va, vc, by omega, by go_num, by rw [hfs'.out], Lib.hid (by rw [hfs'.out]; exact hHA.out)⟩
            case measure => (simp [intOf]; try omega)
        · obtain rfl : nl = k := by omega
          have htk : l.take nl = l := List.take_of_length_le (by rw [hnl'.out]; exact Nat.le_refl _)
          rw [htk] at hh ⊢
          have hH := Lib.hid hh.out
          clear hh hr hv0
          go_wp2_with fail
          go_ret2
          exact ⟨_, rfl, hH.out.re (.step (.here _ _) (.drop (.same _)))⟩
  · rw [decide_eq_false hok] at hmy
    have hE : askE mode p s place round = 260 := may_ck hok
    have hL : askL (toB place) mode p s place round = [] := by unfold askL; rw [hE, if_neg (by decide)]
    rw [hE, hL]
    have hH := Lib.hid Hn
    clear Hn H0 hE hL hok
    go_enter Try.func22, Try.ntmps22
    go_wp2_with fail
    refine (hmy.out _).mono ?_
    rintro e w' ⟨rfl, rfl⟩
    go_wp2_with fail
    go_ret2
    exact ⟨_, rfl, hH.out⟩

end Go.Proofs.Ytamhlmfcnnomgaa
