/- The walk of GramBack. -/
import Derived.Test.YtilpkfgdlehmpaaDoorGmW
namespace Go.Proofs.YtilpkfgdlehmpaaDoor
open Go.RowKit Go.Shelf
set_option linter.unusedVariables false

set_option maxRecDepth 100000 in
set_option maxHeartbeats 16000000 in
theorem back_c (g : Gm) (ok : GmOk g) (a : Option Addr) (n c : Nat) (b : Option Addr) (m cb : Nat) (bs : List Int) (w : World) (hgn : g.data.length = n) (hn : n ≤ 1000) (hbl : bs.length = m) (hm : m ≤ 2000) (hnil : a = none → c = 0) (hmc : m ≤ cb) (hcm : cb ≤ 9223372036854775807)
    (hra : RdB w a g.data) (hrb : RdB w b bs) (hby : ∀ x ∈ bs, byteK x) (tab : TabU w) :
    Calls Tryd.prog 7 #[gmV g (.slice a n c), .slice b m cb] w fun e w' => e = .returned (.bool true) ∧ Kp no w w' := by
  have H0 := (SL.start w).alloc (gmC g (.slice a n c)) 25
  have hra' : Hid (∀ V M M', SL V M → Pull M (.old w no) M' → RdB V a g.data) := Lib.hid fun V M M' h hp => hra.no (h.kp hp)
  have hrb' : Hid (∀ V M M', SL V M → Pull M (.old w no) M' → RdB V b bs) := Lib.hid fun V M M' h hp => hrb.no (h.kp hp)
  have htab : Hid (∀ V M M', SL V M → Pull M (.old w no) M' → TabU V) := Lib.hid fun V M M' h hp => tabU_no tab (h.kp hp)
  have hok := Lib.hid ok
  have hby' := Lib.hid hby
  have hgn' := Lib.hid hgn
  have hbl' := Lib.hid hbl
  have hnil' := Lib.hid hnil
  have hcm' := Lib.hid hcm
  have hm2 : ¬ (2000 : Int) < m := by omega
  have hdc := Lib.hid (decR_cases hby)
  clear hra hrb tab ok hby hgn hbl hnil hcm
  have hgv : gmV g (.slice a n c) = .agg #[.int .i64 g.fr, .int .i64 g.dst, .int .i64 g.kind, .int .u64 g.n, .int .i64 g.by', .int .u64 g.seq, .int .u64 g.ack, .int .u64 g.mask, .slice a n c] := rfl
  rw [hgv]
  clear hgv
  obtain ⟨q0, q1, q2, q3, q4, q5, q6, q7, q8⟩ := gm_cells H0 (.here _ _)
  have hH := Lib.hid H0
  clear H0
  unfold gmC at hH
  go_enter Tryd.func7, Tryd.ntmps7
  go_wp2_with fail
  generalize w.heap.size = X at *
  refine (alive_c hH.out (fun V hV => htab.out _ _ _ hV (.there (.here _ _)))).mono ?_
  rintro e w1 ⟨rfl, H⟩
  replace hH := Lib.hid H
  clear H q0 q1 q2 q3 q4 q5 q6 q7 q8
  obtain ⟨q0, q1, q2, q3, q4, q5, q6, q7, q8⟩ := gm_cells (g := g) hH.out (.here _ _)
  go_wp2_with fail
  refine (great_s g a n c hH.out hn).mono ?_
  rintro e w2 ⟨rfl, H⟩
  replace hH := Lib.hid H
  clear H q0 q1 q2 q3 q4 q5 q6 q7 q8
  obtain ⟨q0, q1, q2, q3, q4, q5, q6, q7, q8⟩ := gm_cells (g := g) hH.out (.here _ _)
  go_wp2_with fail
  by_cases hmay : mayK g
  · obtain ⟨N, hN⟩ : ∃ N, (sealI (encI g)).length = N := ⟨_, rfl⟩
    have hNl : N ≤ 1004 := by rw [← hN, sealI_len]; have := encI_len hok.out hmay; omega
    have hN' := Lib.hid hN
    clear hN
    refine (enc_yes g hok.out hmay a n c N hH.out hN'.out hgn'.out hnil'.out hn (fun V hV => hra'.out _ _ _ hV (.there (.here _ _)))).mono ?_
    rintro e w3 ⟨ea, ec, rfl, H⟩
    replace hH := Lib.hid H
    have hde := Lib.hid (dec_enc hok.out hmay)
    have hIy := Lib.hid (sealI_bytes (encI g))
    clear H q0 q1 q2 q3 q4 q5 q6 q7 q8 hmay
    generalize sealI (encI g) = I at *
    obtain ⟨f1, f2, f3, f4⟩ := own_facts hH.out (.here _ _)
    have f2' := Lib.hid f2
    have f4' := Lib.hid f4
    clear f2 f4
    go_wp2_with fail
    refine (dec_s g 0 hH.out hde.out hN'.out (by omega) f1 f2'.out f4'.out hIy.out n hgn'.out).mono ?_
    rintro e w4 ⟨ha, hc, rfl, H⟩
    replace hH := Lib.hid H
    clear H f4'
    obtain ⟨q0, q1, q2, q3, q4, q5, q6, q7, q8⟩ := gm_cells (g := g) hH.out (.there (.there (.here _ _)))
    have hlt := blk_lt (hH.out.pull (.there (.there (.here _ _)))).head
    go_wp2_with fail
    have H := hH.out.alloc [.int .i64 g.fr, .int .i64 g.dst, .int .i64 g.kind, .int .u64 g.n, .int .i64 g.by', .int .u64 g.seq, .int .u64 g.ack, .int .u64 g.mask, .slice ha n hc] 25
    replace hH := Lib.hid H
    clear H q0 q1 q2 q3 q4 q5 q6 q7 q8 hlt
    dsimp only [List.toArray] at hH
    generalize w4.alloc (.cells #[.int .i64 g.fr, .int .i64 g.dst, .int .i64 g.kind, .int .u64 g.n, .int .i64 g.by', .int .u64 g.seq, .int .u64 g.ack, .int .u64 g.mask, .slice ha n hc] 25) = w5 at *
    generalize w4.heap.size = Y at *
    refine (for_s g hH.out hde.out hN'.out (by omega) f1 f2'.out (own_facts hH.out (.there (.there (.here _ _)))).2.2.2 hIy.out n hgn'.out).mono ?_
    rintro e w6 ⟨ka, kc, rfl, H⟩
    replace hH := Lib.hid H
    clear H
    obtain ⟨q0, q1, q2, q3, q4, q5, q6, q7, q8⟩ := gm_cells (g := g) hH.out (.there (.there (.there (.there (.here _ _)))))
    obtain ⟨y0, y1, y2, y3, y4, y5, y6, y7, y8⟩ := gm_cells (g := g) hH.out (.there (.here _ _))
    have hltx := blk_lt (hH.out.pull (.there (.there (.there (.there (.here _ _)))))).head
    have hlty := blk_lt (hH.out.pull (.there (.here _ _))).head
    go_wp2_with fail
    have H := hH.out.alloc [.int .i64 g.fr, .int .i64 g.dst, .int .i64 g.kind, .int .u64 g.n, .int .i64 g.by', .int .u64 g.seq, .int .u64 g.ack, .int .u64 g.mask, .slice ka n kc] 25
    replace hH := Lib.hid H
    clear H q0 q1 q2 q3 q4 q5 q6 q7 q8 y0 y1 y2 y3 y4 y5 y6 y7 y8 hltx hlty
    dsimp only [List.toArray] at hH
    generalize w6.alloc (.cells #[.int .i64 g.fr, .int .i64 g.dst, .int .i64 g.kind, .int .u64 g.n, .int .i64 g.by', .int .u64 g.seq, .int .u64 g.ack, .int .u64 g.mask, .slice ka n kc] 25) = w7 at *
    generalize w6.heap.size = Z at *
    refine (same_s g g a ha n c n hc hH.out hgn'.out hgn'.out hn hok.out.data hok.out.data (fun V hV => hra'.out _ _ _ hV (.there (.there (.there (.there (.there (.there (.here _ _)))))))) (fun V hV => (own_facts hV (.there (.there (.there (.here _ _))))).2.2.2) true (by simp)).mono ?_
    rintro e w8 ⟨rfl, H⟩
    replace hH := Lib.hid H
    clear H
    obtain ⟨q0, q1, q2, q3, q4, q5, q6, q7, q8⟩ := gm_cells (g := g) hH.out (.there (.there (.there (.there (.there (.here _ _))))))
    obtain ⟨y0, y1, y2, y3, y4, y5, y6, y7, y8⟩ := gm_cells (g := g) hH.out (.here _ _)
    go_wp2_with fail
    refine (same_s g g a ka n c n kc hH.out hgn'.out hgn'.out hn hok.out.data hok.out.data (fun V hV => hra'.out _ _ _ hV (.there (.there (.there (.there (.there (.there (.here _ _)))))))) (fun V hV => (own_facts hV (.there (.here _ _))).2.2.2) true (by simp)).mono ?_
    rintro e w9 ⟨rfl, H⟩
    replace hH := Lib.hid (H.re (.drop (.drop (.drop (.drop (.drop (.same _)))))))
    clear H q0 q1 q2 q3 q4 q5 q6 q7 q8 y0 y1 y2 y3 y4 y5 y6 y7 y8
    have hN4 : ¬ (1024 : Int) < N := by omega
    go_wp2_with fail
    rcases hdc.out with ⟨h, hd, hokh, hmh, hlh, hsh⟩ | ⟨hd1, hd2⟩
    · obtain ⟨k, hk⟩ : ∃ k, h.data.length = k := ⟨_, rfl⟩
      have hk9 : k ≤ 900 := by omega
      have hk' := Lib.hid hk
      have hokh' := Lib.hid hokh
      have hmh' := Lib.hid hmh
      have hsh' := Lib.hid hsh
      clear hk hokh hmh hlh hsh
      refine (dec_s h 0 hH.out hd hbl'.out (by omega) hmc hcm'.out (hrb'.out _ _ _ hH.out (.there (.here _ _))) hby'.out k hk'.out).mono ?_
      rintro e w10 ⟨ja, jc, rfl, H⟩
      clear hd hH
      have hH := Lib.hid H
      clear H
      go_wp2_with fail
      have H := hH.out.alloc [.int .i64 h.fr, .int .i64 h.dst, .int .i64 h.kind, .int .u64 h.n, .int .i64 h.by', .int .u64 h.seq, .int .u64 h.ack, .int .u64 h.mask, .slice ja k jc] 25
      clear hH
      have hH := Lib.hid H
      clear H
      dsimp only [List.toArray] at hH
      generalize w10.alloc (.cells #[.int .i64 h.fr, .int .i64 h.dst, .int .i64 h.kind, .int .u64 h.n, .int .i64 h.by', .int .u64 h.seq, .int .u64 h.ack, .int .u64 h.mask, .slice ja k jc] 25) = w11 at *
      generalize w10.heap.size = J at *
      refine (enc_yes h hokh'.out hmh'.out ja k jc m hH.out (by rw [hsh'.out]; exact hbl'.out) hk'.out (own_facts hH.out (.there (.here _ _))).2.2.1 (by omega) (fun V hV => (own_facts hV (.there (.here _ _))).2.2.2)).mono ?_
      rintro e w12 ⟨da, dc, rfl, H⟩
      rw [hsh'.out] at H
      have s1 := run_strK (c := dc) hbl'.out (own_facts H (.here _ _)).2.2.2 hby'.out
      have s2 := run_strK (c := cb) hbl'.out (hrb'.out _ _ _ H (.there (.there (.there (.there (.here _ _)))))) hby'.out
      generalize strK bs = T at *
      clear hH
      have hH := Lib.hid H
      clear H
      go_wp2_with fail
      go_ret
      exact ⟨rfl, hH.out.kp (.there (.there (.there (.there (.here _ _)))))⟩
    · obtain ⟨E, hE, hE0⟩ : ∃ E, (decR bs).2 = E ∧ (E = 40 ∨ E = 180) := ⟨_, rfl, hd2⟩
      have hd : decR bs = (Gm0, E) := by rw [← hd1, ← hE]
      clear hd1 hd2 hE
      refine (dec_s Gm0 E hH.out hd hbl'.out (by omega) hmc hcm'.out (hrb'.out _ _ _ hH.out (.there (.here _ _))) hby'.out 0 rfl).mono ?_
      rintro e w10 ⟨ja, jc, rfl, H⟩
      clear hd hH
      have hH := Lib.hid H
      clear H
      dsimp only [Gm0]
      have hEd : ¬ E = 0 := by omega
      go_wp2_with fail
      have H := hH.out.alloc [.int .i64 0, .int .i64 0, .int .i64 0, .int .u64 0, .int .i64 0, .int .u64 0, .int .u64 0, .int .u64 0, .slice ja 0 jc] 25
      clear hH
      have hH := Lib.hid H
      clear H
      dsimp only [List.toArray] at hH
      generalize w10.alloc (.cells #[.int .i64 0, .int .i64 0, .int .i64 0, .int .u64 0, .int .i64 0, .int .u64 0, .int .u64 0, .int .u64 0, .slice ja 0 jc] 25) = w11 at *
      generalize w10.heap.size = J at *
      refine (same_s Gm0 Gm0 ja none 0 jc 0 0 hH.out rfl rfl (by omega) gm0_bytes gm0_bytes (fun V hV i hi => (by cases hi)) (fun V hV i hi => (by cases hi)) true (by simp)).mono ?_
      rintro e w12 ⟨rfl, H⟩
      clear hH
      have hH := Lib.hid H
      clear H
      go_wp2_with fail
      go_ret
      exact ⟨rfl, hH.out.kp (.there (.there (.there (.here _ _))))⟩
  · refine (enc_no g hok.out hmay a n c hH.out hgn'.out hnil'.out hn (fun V hV => hra'.out _ _ _ hV (.there (.here _ _)))).mono ?_
    rintro e w9 ⟨ea, ec, rfl, H⟩
    replace hH := Lib.hid H
    clear H q0 q1 q2 q3 q4 q5 q6 q7 q8 hmay
    go_wp2_with fail
    rcases hdc.out with ⟨h, hd, hokh, hmh, hlh, hsh⟩ | ⟨hd1, hd2⟩
    · obtain ⟨k, hk⟩ : ∃ k, h.data.length = k := ⟨_, rfl⟩
      have hk9 : k ≤ 900 := by omega
      have hk' := Lib.hid hk
      have hokh' := Lib.hid hokh
      have hmh' := Lib.hid hmh
      have hsh' := Lib.hid hsh
      clear hk hokh hmh hlh hsh
      refine (dec_s h 0 hH.out hd hbl'.out (by omega) hmc hcm'.out (hrb'.out _ _ _ hH.out (.there (.here _ _))) hby'.out k hk'.out).mono ?_
      rintro e w10 ⟨ja, jc, rfl, H⟩
      clear hd hH
      have hH := Lib.hid H
      clear H
      go_wp2_with fail
      have H := hH.out.alloc [.int .i64 h.fr, .int .i64 h.dst, .int .i64 h.kind, .int .u64 h.n, .int .i64 h.by', .int .u64 h.seq, .int .u64 h.ack, .int .u64 h.mask, .slice ja k jc] 25
      clear hH
      have hH := Lib.hid H
      clear H
      dsimp only [List.toArray] at hH
      generalize w10.alloc (.cells #[.int .i64 h.fr, .int .i64 h.dst, .int .i64 h.kind, .int .u64 h.n, .int .i64 h.by', .int .u64 h.seq, .int .u64 h.ack, .int .u64 h.mask, .slice ja k jc] 25) = w11 at *
      generalize w10.heap.size = J at *
      refine (enc_yes h hokh'.out hmh'.out ja k jc m hH.out (by rw [hsh'.out]; exact hbl'.out) hk'.out (own_facts hH.out (.there (.here _ _))).2.2.1 (by omega) (fun V hV => (own_facts hV (.there (.here _ _))).2.2.2)).mono ?_
      rintro e w12 ⟨da, dc, rfl, H⟩
      rw [hsh'.out] at H
      have s1 := run_strK (c := dc) hbl'.out (own_facts H (.here _ _)).2.2.2 hby'.out
      have s2 := run_strK (c := cb) hbl'.out (hrb'.out _ _ _ H (.there (.there (.there (.there (.here _ _)))))) hby'.out
      generalize strK bs = T at *
      clear hH
      have hH := Lib.hid H
      clear H
      go_wp2_with fail
      go_ret
      exact ⟨rfl, hH.out.kp (.there (.there (.there (.there (.here _ _)))))⟩
    · obtain ⟨E, hE, hE0⟩ : ∃ E, (decR bs).2 = E ∧ (E = 40 ∨ E = 180) := ⟨_, rfl, hd2⟩
      have hd : decR bs = (Gm0, E) := by rw [← hd1, ← hE]
      clear hd1 hd2 hE
      refine (dec_s Gm0 E hH.out hd hbl'.out (by omega) hmc hcm'.out (hrb'.out _ _ _ hH.out (.there (.here _ _))) hby'.out 0 rfl).mono ?_
      rintro e w10 ⟨ja, jc, rfl, H⟩
      clear hd hH
      have hH := Lib.hid H
      clear H
      dsimp only [Gm0]
      have hEd : ¬ E = 0 := by omega
      go_wp2_with fail
      have H := hH.out.alloc [.int .i64 0, .int .i64 0, .int .i64 0, .int .u64 0, .int .i64 0, .int .u64 0, .int .u64 0, .int .u64 0, .slice ja 0 jc] 25
      clear hH
      have hH := Lib.hid H
      clear H
      dsimp only [List.toArray] at hH
      generalize w10.alloc (.cells #[.int .i64 0, .int .i64 0, .int .i64 0, .int .u64 0, .int .i64 0, .int .u64 0, .int .u64 0, .int .u64 0, .slice ja 0 jc] 25) = w11 at *
      generalize w10.heap.size = J at *
      refine (same_s Gm0 Gm0 ja none 0 jc 0 0 hH.out rfl rfl (by omega) gm0_bytes gm0_bytes (fun V hV i hi => (by cases hi)) (fun V hV i hi => (by cases hi)) true (by simp)).mono ?_
      rintro e w12 ⟨rfl, H⟩
      clear hH
      have hH := Lib.hid H
      clear H
      go_wp2_with fail
      go_ret
      exact ⟨rfl, hH.out.kp (.there (.there (.there (.here _ _))))⟩
end Go.Proofs.YtilpkfgdlehmpaaDoor
