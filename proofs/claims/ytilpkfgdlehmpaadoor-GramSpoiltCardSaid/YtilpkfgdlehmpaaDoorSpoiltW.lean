/- The walk of GramSpoilt. -/
import Derived.Test.YtilpkfgdlehmpaaDoorSpoiltL
import Derived.Test.YtilpkfgdlehmpaaDoorOwnMore
import Derived.IntWalk
namespace Go.Proofs.YtilpkfgdlehmpaaDoor
open Go.RowKit Go.Shelf
set_option linter.unusedVariables false

theorem beq_toList' (s t : ByteArray) : (s.toList == t.toList) = decide (s = t) := by
  by_cases h : s = t
  · subst h; simp
  · have h1 : ¬ s.toList = t.toList := fun e => h (toList_inj e)
    simp [h, h1]
set_option maxRecDepth 100000 in
set_option maxHeartbeats 16000000 in
theorem spoilt_c (g : Gm) (ok : GmOk g) (a : Option Addr) (n c : Nat) (A : Nat) (mk : BitVec 32) (w : World) (hgn : g.data.length = n) (hn : n ≤ 1000) (hA : A ≤ 65535) (hnil : a = none → c = 0) (hra : RdB w a g.data) (tab : TabU w) :
    Calls Tryd.prog 5 #[gmV g (.slice a n c), .int .u16 A, .int .u32 (Crc.U mk)] w fun e w' => e = .returned (.bool true) ∧ Kp no w w' := by
  have H0 := (SL.start w).alloc (gmC g (.slice a n c)) 25
  have hra' : Hid (∀ V M M', SL V M → Pull M (.old w no) M' → RdB V a g.data) := Lib.hid fun V M M' h hp => hra.no (h.kp hp)
  have htab : Hid (∀ V M M', SL V M → Pull M (.old w no) M' → TabU V) := Lib.hid fun V M M' h hp => tabU_no tab (h.kp hp)
  have hok := Lib.hid ok
  have hgn' := Lib.hid hgn
  have hnil' := Lib.hid hnil
  have m0 := Crc.U_nn mk
  have m1 := Crc.U_lt32 mk
  clear hra tab ok hgn hnil
  have hgv : gmV g (.slice a n c) = .agg #[.int .i64 g.fr, .int .i64 g.dst, .int .i64 g.kind, .int .u64 g.n, .int .i64 g.by', .int .u64 g.seq, .int .u64 g.ack, .int .u64 g.mask, .slice a n c] := rfl
  rw [hgv]
  clear hgv
  obtain ⟨q0, q1, q2, q3, q4, q5, q6, q7, q8⟩ := gm_cells H0 (.here _ _)
  have hH := Lib.hid H0
  clear H0
  unfold gmC at hH
  go_enter Tryd.func5, Tryd.ntmps5
  go_wp2_with fail
  generalize w.heap.size = X at *
  refine (alive_c hH.out (fun V hV => htab.out _ _ _ hV (.there (.here _ _)))).mono ?_
  rintro e w1 ⟨rfl, H⟩
  replace hH := Lib.hid H
  clear H q0 q1 q2 q3 q4 q5 q6 q7 q8
  obtain ⟨q0, q1, q2, q3, q4, q5, q6, q7, q8⟩ := gm_cells (g := g) hH.out (.here _ _)
  go_wp2_with fail
  refine (great_s g a n c hH.out hn).mono ?_
  rintro e w2 ⟨rfl, H⟩
  replace hH := Lib.hid H
  clear H q0 q1 q2 q3 q4 q5 q6 q7 q8
  obtain ⟨q0, q1, q2, q3, q4, q5, q6, q7, q8⟩ := gm_cells (g := g) hH.out (.here _ _)
  go_wp2_with fail
  by_cases hmay : mayK g
  · obtain ⟨N, hN⟩ : ∃ N, (sealI (encI g)).length = N := ⟨_, rfl⟩
    have hNl : N ≤ 1004 := by rw [← hN, sealI_len]; have := encI_len hok.out hmay; omega
    have hN5 : 5 ≤ N := by rw [← hN, sealI_len]; have : 0 < (encI g).length := by { unfold encI headB; simp only [List.length_append]; have := nB_pos g.kind.toNat; omega }
                           omega
    have hN' := Lib.hid hN
    have hNe : (encI g).length + 4 = N := by rw [← hN, sealI_len]
    clear hN
    refine (enc_yes g hok.out hmay a n c N hH.out hN'.out hgn'.out hnil'.out hn (fun V hV => hra'.out _ _ _ hV (.there (.here _ _)))).mono ?_
    rintro e w3 ⟨ea, ec, rfl, H⟩
    have hde := Lib.hid (dec_enc hok.out hmay)
    have hIy := Lib.hid (sealI_bytes (encI g))
    have hBl := Lib.hid hNe
    have htw := Lib.hid (twI_open (encI g))
    have htz := Lib.hid (twI_zero (encI g))
    clear hNe hH q0 q1 q2 q3 q4 q5 q6 q7 q8 hmay
    have hH := Lib.hid H
    clear H
    generalize hBB : encI g = B at *
    clear hBB
    obtain ⟨f1, f2, f3, f4⟩ := own_facts hH.out (.here _ _)
    have f3' := Lib.hid f3
    have hE := Lib.hid (hH.out.empty 5)
    have f4' := Lib.hid (RdB.rd (f4.no ((Kp.refl no w3).alloc (.cells #[] 5))))
    have hbv : Hid ((bv (sealI B)).length = N * 1) := Lib.hid (by rw [bv_length, Nat.mul_one]; exact hN'.out)
    clear f1 f2 f3 f4 hH
    go_wp2_with (at_builtin; refine sl_app hE.out rfl _ _ _ rfl elemB _ rfl (.here _ _) (bv (sealI B)) rfl hbv.out f4'.out (bv_one (sealI B)) (by simp only [maxLen]; omega) (by omega) f3'.out ?_; intro v1 w4 H1 hnil1; rw [Nat.zero_add, List.nil_append] at H1; obtain ⟨ca, cc, rfl, hcc1, hcc2, hcc3, -⟩ := OwnK.slice H1.head; have hH := Lib.hid H1; have hca3 := Lib.hid hcc3; have hcc2' := Lib.hid hcc2; clear hE f4' H1 hnil1 hcc3 hcc2)
    obtain ⟨g2, hg2⟩ : ∃ g2, ca = some ⟨g2, 0, none⟩ := by
      have hz : OwnK w4 0 5 1 (.slice ca N cc) N (bv (sealI B)) := hH.out.head
      rcases hz.form with ⟨e, h2, _⟩ | ⟨g, cap, e, _, _, hc, _⟩
      · omega
      · cases e; exact ⟨g, rfl⟩
    subst hg2
    obtain ⟨p, hp⟩ : ∃ p : Nat, (A : Int) % (8 * (N : Int)) = p := ⟨A % (8 * N), by push_cast; rfl⟩
    have hp8 : p < 8 * N := by have := Int.emod_lt_of_pos (A : Int) (show 0 < 8 * (N : Int) by omega); omega
    rw [hp]
    clear hp hca3
    have hH0 : Hid (SL w4 (.own 5 1 (.slice (some ⟨g2, 0, none⟩) N cc) N (bv (twI B p mk 0)) :: [.own 5 1 (.slice ea N ec) N (bv (sealI B)), .blk X (gmC g (.slice a n c)) 25, .old w no])) := Lib.hid (by rw [htz.out]; exact hH.out)
    clear hH
    go_loopw [12] (fun i wr => ∃ k : Nat, k ≤ 32 ∧ i = .int .i64 k ∧ Hid (SL wr (.own 5 1 (.slice (some ⟨g2, 0, none⟩) N cc) N (bv (twI B p mk k)) :: [.own 5 1 (.slice ea N ec) N (bv (sealI B)), .blk X (gmC g (.slice a n c)) 25, .old w no]))) (fun i _ => 32 - (intOf i).toNat)
    case atStart => exact ⟨0, by omega, rfl, hH0⟩
    case round =>
      clear hH0
      obtain ⟨k, hk, rfl, hH⟩ := hrel
      by_cases hlt : k < 32 ∧ p + k < 8 * N
      · obtain ⟨hlt, hin⟩ := hlt
        have hin' : (p : Int) + (k : Int) < 8 * (N : Int) := by omega
        cases hb : mk.getLsbD k with
        | false =>
          have hfl : flipsK B.length p mk k = false := by simp [flipsK, hb]
          have hmk : ((Crc.U mk / 2 ^ k).tmod 2 == 1) = false := by rw [mask_bit, hb]
          have e3 := Lib.hid (twI_skip hfl)
          clear hfl hb
          go_wp2_with fail
          go_roundw
          case rel => exact ⟨k + 1, by omega, by go_num, Lib.hid (by rw [e3.out]; exact hH.out)⟩
          case measure => simp [intOf]; omega
        | true =>
          have hfl : flipsK B.length p mk k = true := by simp [flipsK, hb]; have := hBl.out; omega
          have hmk : ((Crc.U mk / 2 ^ k).tmod 2 == 1) = true := by rw [mask_bit, hb]
          obtain ⟨z, hz, hst⟩ := twI_set hfl (by rw [hBl.out]; exact hin)
          have hoc := own_cell (show OwnK wr 0 5 1 (.slice (some ⟨g2, 0, none⟩) N cc) N (bv (twI B p mk k)) from hH.out.head) (show (p + k) / 8 < N by omega)
          have hcell := hoc.1
          have hfr := hoc.2
          rw [hz] at hcell
          have hst' := Lib.hid (hst ▸ own_store hH.out ((p + k) / 8) (.int .u8 (bits .xor .u8 z (2 ^ ((p + k) % 8) % 256))))
          clear hfl hb hoc hz hst
          go_wp2_with fail
          go_roundw
          case rel => exact ⟨k + 1, by omega, by go_num, hst'⟩
          case measure => simp [intOf]; omega
      · have e32 : twI B p mk k = twI B p mk 32 := by
          by_cases h32 : k = 32
          · rw [h32]
          · exact twI_stay hk (by rw [hBl.out]; omega)
        rw [e32] at hH
        clear e32
-- TAIL
        by_cases h32 : k = 32
        · subst h32
          clear hlt hk
          rcases htw.out p mk with ht | ⟨ht, hne⟩
          · rw [ht] at hH
            have hH' := hH
            clear hH ht
            have hH := hH'
            clear hH'
            obtain ⟨q0, q1, q2, q3, q4, q5, q6, q7, q8⟩ := gm_cells (g := g) hH.out (.there (.there (.here _ _)))
            have hltx := blk_lt (hH.out.pull (.there (.there (.here _ _)))).head
            have hde := hde
            go_wp2_with fail
            refine (dec_s g 0 hH.out hde.out hN'.out (by omega) hcc1 (by have := hcc2'.out; simpa only [maxLen] using this) (own_facts hH.out (.here _ _)).2.2.2 hIy.out n hgn'.out).mono ?_
            rintro e w5 ⟨ja, jc, rfl, H⟩
            clear hH q0 q1 q2 q3 q4 q5 q6 q7 q8 hltx
            have HA := H.alloc [.int .i64 g.fr, .int .i64 g.dst, .int .i64 g.kind, .int .u64 g.n, .int .i64 g.by', .int .u64 g.seq, .int .u64 g.ack, .int .u64 g.mask, .slice ja n jc] 25
            have hH := Lib.hid HA
            have hlt5 := blk_lt (H.pull (.there (.there (.there (.here _ _))))).head
            have s1 := run_strK (c := ec) hN'.out (own_facts HA (.there (.there (.there (.here _ _))))).2.2.2 hIy.out
            have s2 := run_strK (c := cc) hN'.out (own_facts HA (.there (.there (.here _ _)))).2.2.2 hIy.out
            obtain ⟨q0, q1, q2, q3, q4, q5, q6, q7, q8⟩ := gm_cells (g := g) HA (.there (.there (.there (.there (.here _ _)))))
            obtain ⟨y0, y1, y2, y3, y4, y5, y6, y7, y8⟩ := gm_cells (g := g) HA (.here _ _)
            dsimp only [List.toArray] at q0 q1 q2 q3 q4 q5 q6 q7 q8 y0 y1 y2 y3 y4 y5 y6 y7 y8 s1 s2 hH
            clear H HA
            generalize strK (sealI B) = T at *
            go_wp2_with fail
            generalize w5.alloc (.cells #[.int .i64 g.fr, .int .i64 g.dst, .int .i64 g.kind, .int .u64 g.n, .int .i64 g.by', .int .u64 g.seq, .int .u64 g.ack, .int .u64 g.mask, .slice ja n jc] 25) = w6 at *
            refine (same_s g g a ja n c n jc hH.out hgn'.out hgn'.out hn hok.out.data hok.out.data (fun V hV => hra'.out _ _ _ hV (.there (.there (.there (.there (.there (.here _ _))))))) (fun V hV => (own_facts hV (.there (.here _ _))).2.2.2) true (by simp)).mono ?_
            rintro e w7 ⟨rfl, H⟩
            clear hH
            have hH := Lib.hid H
            clear H q0 q1 q2 q3 q4 q5 q6 q7 q8 y0 y1 y2 y3 y4 y5 y6 y7 y8 s1 s2
            go_wp2_with fail
            go_ret
            exact ⟨rfl, hH.out.kp (.there (.there (.there (.there (.there (.here _ _))))))⟩
          · have hJl := twI_len B p mk 32
            rw [hBl.out] at hJl
            have hJ' := Lib.hid hJl
            have hJy := Lib.hid (twI_bytes B p mk 32)
            have htt : (strK (sealI B)).toList == (strK (twI B p mk 32)).toList ↔ False := by
              rw [beq_toList']
              simp only [decide_eq_true_eq, iff_false]
              intro e
              exact hne (strK_inj hIy.out hJy.out e).symm
            have htt' := Lib.hid htt
            have ht' := Lib.hid ht
            clear hJl ht hne htt
            generalize twI B p mk 32 = J at *
            go_wp2_with fail
            refine (dec_s Gm0 40 hH.out ht'.out hJ'.out (by omega) hcc1 (by have := hcc2'.out; simpa only [maxLen] using this) (own_facts hH.out (.here _ _)).2.2.2 hJy.out 0 rfl).mono ?_
            rintro e w5 ⟨ja, jc, rfl, H⟩
            clear hH
            dsimp only [Gm0]
            have HA := H.alloc [.int .i64 0, .int .i64 0, .int .i64 0, .int .u64 0, .int .i64 0, .int .u64 0, .int .u64 0, .int .u64 0, .slice ja 0 jc] 25
            have hH := Lib.hid HA
            have s1 := run_strK (c := ec) hN'.out (own_facts HA (.there (.there (.there (.here _ _))))).2.2.2 hIy.out
            have s2 := run_strK (c := cc) hJ'.out (own_facts HA (.there (.there (.here _ _)))).2.2.2 hJy.out
            obtain ⟨y0, y1, y2, y3, y4, y5, y6, y7, y8⟩ := gm_cells (g := Gm0) HA (.here _ _)
            dsimp only [List.toArray, Gm0] at y0 y1 y2 y3 y4 y5 y6 y7 y8 s1 s2 hH
            clear H HA
            generalize strK (sealI B) = T1 at *
            generalize strK J = T2 at *
            have htf : (T1.toList == T2.toList) = false := by
              cases h : (T1.toList == T2.toList)
              · rfl
              · exact absurd h (by simp [htt'.out])
            go_wp2_with fail
            generalize w5.alloc (.cells #[.int .i64 0, .int .i64 0, .int .i64 0, .int .u64 0, .int .i64 0, .int .u64 0, .int .u64 0, .int .u64 0, .slice ja 0 jc] 25) = w6 at *
            refine (same_s Gm0 Gm0 ja none 0 jc 0 0 hH.out rfl rfl (by omega) gm0_bytes gm0_bytes (fun V hV i hi => (by cases hi)) (fun V hV i hi => (by cases hi)) true (by simp)).mono ?_
            rintro e w7 ⟨rfl, H⟩
            clear hH
            have hH := Lib.hid H
            clear H y0 y1 y2 y3 y4 y5 y6 y7 y8 s1 s2
            go_wp2_with fail
            go_ret
            exact ⟨rfl, hH.out.kp (.there (.there (.there (.there (.there (.here _ _))))))⟩

        · have hout : 8 * (N : Int) ≤ (p : Int) + (k : Int) := by omega
          have hk32 : k < 32 := by omega
          clear h32 hlt
          rcases htw.out p mk with ht | ⟨ht, hne⟩
          · rw [ht] at hH
            have hH' := hH
            clear hH ht
            have hH := hH'
            clear hH'
            obtain ⟨q0, q1, q2, q3, q4, q5, q6, q7, q8⟩ := gm_cells (g := g) hH.out (.there (.there (.here _ _)))
            have hltx := blk_lt (hH.out.pull (.there (.there (.here _ _)))).head
            have hde := hde
            go_wp2_with fail
            refine (dec_s g 0 hH.out hde.out hN'.out (by omega) hcc1 (by have := hcc2'.out; simpa only [maxLen] using this) (own_facts hH.out (.here _ _)).2.2.2 hIy.out n hgn'.out).mono ?_
            rintro e w5 ⟨ja, jc, rfl, H⟩
            clear hH q0 q1 q2 q3 q4 q5 q6 q7 q8 hltx
            have HA := H.alloc [.int .i64 g.fr, .int .i64 g.dst, .int .i64 g.kind, .int .u64 g.n, .int .i64 g.by', .int .u64 g.seq, .int .u64 g.ack, .int .u64 g.mask, .slice ja n jc] 25
            have hH := Lib.hid HA
            have hlt5 := blk_lt (H.pull (.there (.there (.there (.here _ _))))).head
            have s1 := run_strK (c := ec) hN'.out (own_facts HA (.there (.there (.there (.here _ _))))).2.2.2 hIy.out
            have s2 := run_strK (c := cc) hN'.out (own_facts HA (.there (.there (.here _ _)))).2.2.2 hIy.out
            obtain ⟨q0, q1, q2, q3, q4, q5, q6, q7, q8⟩ := gm_cells (g := g) HA (.there (.there (.there (.there (.here _ _)))))
            obtain ⟨y0, y1, y2, y3, y4, y5, y6, y7, y8⟩ := gm_cells (g := g) HA (.here _ _)
            dsimp only [List.toArray] at q0 q1 q2 q3 q4 q5 q6 q7 q8 y0 y1 y2 y3 y4 y5 y6 y7 y8 s1 s2 hH
            clear H HA
            generalize strK (sealI B) = T at *
            go_wp2_with fail
            generalize w5.alloc (.cells #[.int .i64 g.fr, .int .i64 g.dst, .int .i64 g.kind, .int .u64 g.n, .int .i64 g.by', .int .u64 g.seq, .int .u64 g.ack, .int .u64 g.mask, .slice ja n jc] 25) = w6 at *
            refine (same_s g g a ja n c n jc hH.out hgn'.out hgn'.out hn hok.out.data hok.out.data (fun V hV => hra'.out _ _ _ hV (.there (.there (.there (.there (.there (.here _ _))))))) (fun V hV => (own_facts hV (.there (.here _ _))).2.2.2) true (by simp)).mono ?_
            rintro e w7 ⟨rfl, H⟩
            clear hH
            have hH := Lib.hid H
            clear H q0 q1 q2 q3 q4 q5 q6 q7 q8 y0 y1 y2 y3 y4 y5 y6 y7 y8 s1 s2
            go_wp2_with fail
            go_ret
            exact ⟨rfl, hH.out.kp (.there (.there (.there (.there (.there (.here _ _))))))⟩
          · have hJl := twI_len B p mk 32
            rw [hBl.out] at hJl
            have hJ' := Lib.hid hJl
            have hJy := Lib.hid (twI_bytes B p mk 32)
            have htt : (strK (sealI B)).toList == (strK (twI B p mk 32)).toList ↔ False := by
              rw [beq_toList']
              simp only [decide_eq_true_eq, iff_false]
              intro e
              exact hne (strK_inj hIy.out hJy.out e).symm
            have htt' := Lib.hid htt
            have ht' := Lib.hid ht
            clear hJl ht hne htt
            generalize twI B p mk 32 = J at *
            go_wp2_with fail
            refine (dec_s Gm0 40 hH.out ht'.out hJ'.out (by omega) hcc1 (by have := hcc2'.out; simpa only [maxLen] using this) (own_facts hH.out (.here _ _)).2.2.2 hJy.out 0 rfl).mono ?_
            rintro e w5 ⟨ja, jc, rfl, H⟩
            clear hH
            dsimp only [Gm0]
            have HA := H.alloc [.int .i64 0, .int .i64 0, .int .i64 0, .int .u64 0, .int .i64 0, .int .u64 0, .int .u64 0, .int .u64 0, .slice ja 0 jc] 25
            have hH := Lib.hid HA
            have s1 := run_strK (c := ec) hN'.out (own_facts HA (.there (.there (.there (.here _ _))))).2.2.2 hIy.out
            have s2 := run_strK (c := cc) hJ'.out (own_facts HA (.there (.there (.here _ _)))).2.2.2 hJy.out
            obtain ⟨y0, y1, y2, y3, y4, y5, y6, y7, y8⟩ := gm_cells (g := Gm0) HA (.here _ _)
            dsimp only [List.toArray, Gm0] at y0 y1 y2 y3 y4 y5 y6 y7 y8 s1 s2 hH
            clear H HA
            generalize strK (sealI B) = T1 at *
            generalize strK J = T2 at *
            have htf : (T1.toList == T2.toList) = false := by
              cases h : (T1.toList == T2.toList)
              · rfl
              · exact absurd h (by simp [htt'.out])
            go_wp2_with fail
            generalize w5.alloc (.cells #[.int .i64 0, .int .i64 0, .int .i64 0, .int .u64 0, .int .i64 0, .int .u64 0, .int .u64 0, .int .u64 0, .slice ja 0 jc] 25) = w6 at *
            refine (same_s Gm0 Gm0 ja none 0 jc 0 0 hH.out rfl rfl (by omega) gm0_bytes gm0_bytes (fun V hV i hi => (by cases hi)) (fun V hV i hi => (by cases hi)) true (by simp)).mono ?_
            rintro e w7 ⟨rfl, H⟩
            clear hH
            have hH := Lib.hid H
            clear H y0 y1 y2 y3 y4 y5 y6 y7 y8 s1 s2
            go_wp2_with fail
            go_ret
            exact ⟨rfl, hH.out.kp (.there (.there (.there (.there (.there (.here _ _))))))⟩
-- LIAT
  · refine (enc_no g hok.out hmay a n c hH.out hgn'.out hnil'.out hn (fun V hV => hra'.out _ _ _ hV (.there (.here _ _)))).mono ?_
    rintro e w9 ⟨ea, ec, rfl, H⟩
    replace hH := Lib.hid H
    clear H q0 q1 q2 q3 q4 q5 q6 q7 q8 hmay
    go_wp2_with fail
    go_ret
    exact ⟨rfl, hH.out.kp (.there (.here _ _))⟩
end Go.Proofs.YtilpkfgdlehmpaaDoor
