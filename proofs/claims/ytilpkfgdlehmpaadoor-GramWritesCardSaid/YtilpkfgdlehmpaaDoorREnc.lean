/- mullionref18.Encode. -/
import Derived.Test.YtilpkfgdlehmpaaDoorRWrt
import Derived.Test.YtilpkfgdlehmpaaDoorEnc
import Derived.Test.YtilpkfgdlehmpaaDoorMay
namespace Go.Proofs.YtilpkfgdlehmpaaDoor
open Go.RowKit Go.Shelf
set_option linter.unusedVariables false
set_option linter.unusedSimpArgs false

theorem nil_bytes : ∀ x ∈ ([] : List Int), byteK x := fun x hx => by cases hx
theorem app_bytes {a b : List Int} (ha : ∀ x ∈ a, byteK x) (hb : ∀ x ∈ b, byteK x) : ∀ x ∈ a ++ b, byteK x := fun x hx => (List.mem_append.1 hx).elim (ha x) (hb x)
section
variable {p : Nat} {bs : List Int} {L : List Pc} {w : World}
set_option maxRecDepth 100000 in
theorem rwuint_c (H : RwAt p bs L w) (n : Nat) (hn : n < 18446744073709551616) (hb : bs.length ≤ 6000) :
    Calls Tryd.prog 32 #[ptrV p, .int .u64 (n : Int)] w fun e w' => (∃ v, e = .returned v) ∧ RwAt p (bs ++ nB n) L w' := by
  obtain ⟨a, c, HS⟩ := H
  have hf := Lib.hid (rform_c n hn HS)
  have hl10 := nB_len64 hn
  clear HS hn
  unfold ptrV
  go_enter Tryd.func32, Tryd.ntmps32
  go_wp2_with fail
  refine hf.out.mono ?_
  rintro e w2 ⟨fa, fc, rfl, H2⟩
  clear hf
  have hp := Lib.hid (put_c (L := .own 5 1 (.slice fa (nB n).length fc) (nB n).length (bv (nB n)) :: L) ⟨a, c, H2.re (.step (.there (.here _ _)) (.step (.there (.here _ _)) (.same _)))⟩ fa fc (nB n) (by omega) hb (own_nil (l := nB n) H2.head) (fun V h => (OwnK.rdB (show OwnK V 0 5 1 (.slice fa (nB n).length fc) (nB n).length (bv (nB n)) from h.head)).2.2))
  clear H2
  unfold ptrV at hp
  go_wp2_with fail
  refine hp.out.mono ?_
  rintro e w3 ⟨⟨v, rfl⟩, H3⟩
  have hH := Lib.hid (H3.re (.drop (.same _)))
  clear hp H3
  go_wp2_with fail
  go_end0
  exact ⟨⟨_, rfl⟩, hH.out⟩
set_option maxRecDepth 100000 in
set_option maxHeartbeats 4000000 in
theorem rwtext_c (H : RwAt p bs L w) (a : Option Addr) (c : Nat) (l : List Int) (m : Int) (hl : (l.length : Int) ≤ m ∧ m ≤ 1000000) (hl6 : l.length ≤ 5900) (hb : bs.length ≤ 6000) (hnil : a = none → c = 0) (hr : ∀ V, SL V L → RdB V a l) :
    Calls Tryd.prog 33 #[ptrV p, .slice a l.length c, .int .i64 m] w fun e w' => (∃ v, e = .returned v) ∧ RwAt p (bs ++ (nB l.length ++ l)) L w' := by
  obtain ⟨sa, sc, HS⟩ := H
  have hf := Lib.hid (rform_c l.length (by omega) HS)
  have hl10 := nB_len64 (n := l.length) (by omega)
  have hr' := Lib.hid hr
  have hnil' := Lib.hid hnil
  obtain ⟨n, hn⟩ : ∃ n, l.length = n := ⟨_, rfl⟩
  have hn' := Lib.hid hn
  rw [hn] at hf hl hl6 hl10 ⊢
  obtain ⟨hm1, hm2⟩ := hl
  have hmb : decide ((n : Int) ≤ m) = true := by simpa using hm1
  clear HS hr hnil hn
  unfold ptrV
  go_enter Tryd.func33, Tryd.ntmps33
  go_wp2_with fail
  refine hf.out.mono ?_
  rintro e w2 ⟨fa, fc, rfl, H2⟩
  clear hf
  have hH := Lib.hid H2
  have hrl := Lib.hid ((hr'.out _ H2.tail.tail.tail).rd)
  obtain ⟨k, hk⟩ : ∃ k, (nB n).length = k := ⟨_, rfl⟩
  have hk' := Lib.hid hk
  rw [hk] at hH hl10 ⊢
  clear H2 hk
  go_wp2_with (
    at_builtin
    refine sl_app hH.out rfl _ _ _ rfl elemB _ rfl (.here _ _) (bv l) rfl (by rw [bv_length, Nat.mul_one]; exact hn'.out) hrl.out (bv_one l) (by simp only [maxLen]; omega) (by omega) hnil'.out ?_
    intro v1 w4 H4 hnil1
    obtain ⟨a4, c4, rfl, -⟩ := OwnK.slice H4.head
    have hO := Lib.hid H4
    clear hH hrl H4 hnil1)
  have hlen : (nB n ++ l).length = k + n := by rw [List.length_append, hk'.out, hn'.out]
  have hO2 := hO.out
  rw [← bv_append] at hO2
  have hp := Lib.hid (put_c (p := p) (bs := bs) (L := .own 5 1 (.slice a4 (k + n) c4) (k + n) (bv (nB n ++ l)) :: L) ⟨sa, sc, hO2.re (.step (.there (.here _ _)) (.step (.there (.here _ _)) (.same _)))⟩ a4 c4 (nB n ++ l) (by omega) hb (own_nil (l := nB n ++ l) hO2.head) (fun V h => (OwnK.rdB (show OwnK V 0 5 1 (.slice a4 (k + n) c4) (k + n) (bv (nB n ++ l)) from h.head)).2.2))
  rw [hlen] at hp
  clear hO hO2 hlen
  unfold ptrV at hp
  refine hp.out.mono ?_
  rintro e w5 ⟨⟨v, rfl⟩, H5⟩
  have hF := Lib.hid (H5.re (.drop (.same _)))
  clear hp H5
  go_wp2_with fail
  go_end0
  exact ⟨⟨_, rfl⟩, hF.out⟩
end
set_option maxRecDepth 100000 in
set_option maxHeartbeats 8000000 in
theorem renc_c (g : Gm) (ok : GmOk g) (a : Option Addr) (c : Nat) {L : List Pc} {w : World} (H : SL w L) (hnil : a = none → c = 0) (hl : g.data.length ≤ 1000) (hr : ∀ V, SL V L → RdB V a g.data) :
    Calls Tryd.prog 10 #[gmV g (.slice a g.data.length c)] w (EncPost g L) := by
  have hH := Lib.hid (H.alloc (gmC g (.slice a g.data.length c)) 25)
  have hr' := Lib.hid hr
  have hnil' := Lib.hid hnil
  have hchk := Lib.hid (fun w L H M hM => may_c g a c (w := w) (L := L) H M hM)
  have hok := Lib.hid ok
  have hbad : Hid (¬ mayK g → ∀ e w', e = .returned (.tuple #[.slice none 0 0, .int .i64 180]) → SL w' L → EncPost g L e w') := Lib.hid fun h e w' he hw => by
    unfold EncPost encR
    rw [if_neg h]
    exact ⟨none, 0, he, hw.pure (OwnK.nil _ _ _ _) (fun b hb => by cases hb)⟩
  have hgood : Hid (mayK g → ∀ e w' a' c', e = .returned (.tuple #[.slice a' (sealI (encI g)).length c', .int .i64 0]) → SL w' (.own 5 1 (.slice a' (sealI (encI g)).length c') (sealI (encI g)).length (bv (sealI (encI g))) :: L) → EncPost g L e w') := Lib.hid fun h e w' a' c' he hw => by
    unfold EncPost encR
    rw [if_pos h]
    exact ⟨a', c', he, hw⟩
  obtain ⟨P, hP⟩ : ∃ P, EncPost g L = P := ⟨_, rfl⟩
  rw [hP] at hbad hgood ⊢
  have hdy := Lib.hid ok.data
  clear hP H hr hnil ok
  obtain ⟨dl, hdl⟩ : ∃ dl, g.data.length = dl := ⟨_, rfl⟩
  have hdl' := Lib.hid hdl
  rw [hdl] at hH hchk hl ⊢
  clear hdl
  have hgv : gmV g (.slice a dl c) = .agg #[.int .i64 g.fr, .int .i64 g.dst, .int .i64 g.kind, .int .u64 g.n, .int .i64 g.by', .int .u64 g.seq, .int .u64 g.ack, .int .u64 g.mask, .slice a dl c] := rfl
  rw [hgv] at hchk ⊢
  clear hgv
  unfold gmC at hH
  by_cases hm : mayK g
  · have hm1 := hm.1
    have hm2 := hm.2.1
    have hm3 := hm.2.2.1
    have hm4 : 1 ≤ g.kind ∧ g.kind ≤ 3 := by have := hm.2.2.2.2; unfold formK at this; omega
    have hg2 : Hid (g.kind = 2 → g.data.length ≤ 900) := Lib.hid fun h => by have := hm.2.2.2.2; unfold formK at this; omega
    unfold nodeK at hm1 hm2 hm3
    have hk0 := Lib.hid (hchk.out _ _ hH.out true (decide_eq_true hm))
    have hgo := Lib.hid (hgood.out hm)
    have hn0 := hok.out.n
    have hs0 := hok.out.seq
    have ha0 := hok.out.ack
    have hq0 := hok.out.mask
    obtain ⟨KI, hKI⟩ := Int.eq_ofNat_of_zero_le (show 0 ≤ g.kind by omega)
    obtain ⟨FR, hFR⟩ := Int.eq_ofNat_of_zero_le hm1.1
    obtain ⟨DS, hDS⟩ := Int.eq_ofNat_of_zero_le hm2.1
    obtain ⟨NN, hNN⟩ := Int.eq_ofNat_of_zero_le hn0.1
    obtain ⟨BY, hBY⟩ := Int.eq_ofNat_of_zero_le hm3.1
    obtain ⟨SQ, hSQ⟩ := Int.eq_ofNat_of_zero_le hs0.1
    obtain ⟨AK, hAK⟩ := Int.eq_ofNat_of_zero_le ha0.1
    obtain ⟨MK, hMK⟩ := Int.eq_ofNat_of_zero_le hq0.1
    have hN64 : Hid (NN < 18446744073709551616 ∧ SQ < 18446744073709551616 ∧ AK < 18446744073709551616 ∧ MK < 18446744073709551616) := Lib.hid (by have := hn0.2; have := hs0.2; have := ha0.2; have := hq0.2; omega)
    have hhead : Hid (headB g = nB KI ++ nB FR ++ nB DS ++ nB NN ++ nB BY) := Lib.hid (by unfold headB; rw [hKI, hFR, hDS, hNN, hBY]; rfl)
    have hfld : Hid (fldB g (fldN g.kind) = (if KI = 1 then [] else if KI = 3 then nB AK ++ nB MK else nB SQ ++ (nB AK ++ nB MK))) := Lib.hid (by
      have e1 : g.seq.toNat = SQ := by rw [hSQ]; rfl
      have e2 : g.ack.toNat = AK := by rw [hAK]; rfl
      have e3 : g.mask.toNat = MK := by rw [hMK]; rfl
      unfold fldN fldB
      by_cases h1 : KI = 1
      · rw [if_pos (by omega), if_pos h1]; rfl
      · rw [if_neg (by omega), if_neg h1]
        by_cases h3 : KI = 3
        · rw [if_pos (by omega), if_pos h3]; simp [fvK, e2, e3]
        · rw [if_neg (by omega), if_neg h3]; simp [fvK, e1, e2, e3])
    have hL : Hid ((nB KI).length ≤ 10 ∧ (nB FR).length ≤ 10 ∧ (nB DS).length ≤ 10 ∧ (nB NN).length ≤ 10 ∧ (nB BY).length ≤ 10 ∧ (nB SQ).length ≤ 10 ∧ (nB AK).length ≤ 10 ∧ (nB MK).length ≤ 10) := Lib.hid ⟨nB_len64 (by omega), nB_len64 (by omega), nB_len64 (by omega), nB_len64 hN64.out.1, nB_len64 (by omega), nB_len64 hN64.out.2.1, nB_len64 hN64.out.2.2.1, nB_len64 hN64.out.2.2.2⟩
    have hK1 := Lib.hid hKI
    rw [hKI] at hm4 hg2
    rw [hFR] at hm1
    rw [hDS] at hm2
    rw [hBY] at hm3
    rw [hKI, hFR, hDS, hNN, hBY, hSQ, hAK, hMK] at hH hk0 ⊢
    clear hKI hFR hDS hNN hBY hSQ hAK hMK hn0 hs0 ha0 hq0 hm hbad hgood hchk
    have q0 := hH.out.cell (o := 0) (.here _ _) rfl
    have q1 := hH.out.cell (o := 1) (.here _ _) rfl
    have q2 := hH.out.cell (o := 2) (.here _ _) rfl
    have q3 := hH.out.cell (o := 3) (.here _ _) rfl
    have q4 := hH.out.cell (o := 4) (.here _ _) rfl
    have q5 := hH.out.cell (o := 5) (.here _ _) rfl
    have q6 := hH.out.cell (o := 6) (.here _ _) rfl
    have q7 := hH.out.cell (o := 7) (.here _ _) rfl
    have q8 := hH.out.cell (o := 8) (.here _ _) rfl
    go_enter Tryd.func10, Tryd.ntmps10
    go_wp2_with fail
    generalize w.alloc (.cells [Value.int .i64 FR, .int .i64 DS, .int .i64 KI, .int .u64 NN, .int .i64 BY, .int .u64 SQ, .int .u64 AK, .int .u64 MK, .slice a dl c].toArray 25) = w1 at *
    generalize w.heap.size = G at *
    refine hk0.out.mono ?_
    rintro e w2 ⟨rfl, H2⟩
    clear hk0 hH q0 q1 q2 q3 q4 q5 q6 q7 q8
    have H3 : Hid (RwAt w2.heap.size [] (.blk G [.int .i64 FR, .int .i64 DS, .int .i64 KI, .int .u64 NN, .int .i64 BY, .int .u64 SQ, .int .u64 AK, .int .u64 MK, .slice a dl c] 25 :: L) (w2.alloc (.cells [.slice none 0 0, .bool false].toArray 66))) := Lib.hid ⟨none, 0, ((H2.alloc [.slice none 0 0, .bool false] 66).pure (q := .own 5 1 (.slice none 0 0) 0 []) (OwnK.nil _ _ _ _) (fun b h => by cases h)).re (.step (.there (.here _ _)) (.same _))⟩
    have qq := H2.cell (b := G) (o := 2) (.here _ _) rfl
    have hlt := cell_lt qq
    clear H2
    go_wp2_with fail
    generalize w2.alloc (.cells [Value.slice none 0 0, .bool false].toArray 66) = w3 at *
    generalize w2.heap.size = p at *
    clear qq hlt
    have cc := Lib.hid (rwuint_c H3.out KI (by omega) (by simp only [List.length_append, List.length_nil]; omega))
    clear H3
    unfold ptrV at cc
    refine cc.out.mono ?_
    rintro e wa ⟨⟨vv, rfl⟩, Ha⟩
    clear cc
    have qq0 := Ha.sl.cell (b := G) (o := 0) (.here _ _) rfl
    have K1 := Lib.hid Ha
    clear Ha
    go_wp2_with fail
    clear qq0
    have cc := Lib.hid (rwuint_c K1.out FR (by omega) (by have := hL.out; simp only [List.length_append, List.length_nil]; omega))
    clear K1
    unfold ptrV at cc
    refine cc.out.mono ?_
    rintro e wb ⟨⟨vv, rfl⟩, Ha⟩
    clear cc
    have qq1 := Ha.sl.cell (b := G) (o := 1) (.here _ _) rfl
    have K2 := Lib.hid Ha
    clear Ha
    go_wp2_with fail
    clear qq1
    have cc := Lib.hid (rwuint_c K2.out DS (by omega) (by have := hL.out; simp only [List.length_append, List.length_nil]; omega))
    clear K2
    unfold ptrV at cc
    refine cc.out.mono ?_
    rintro e wc ⟨⟨vv, rfl⟩, Ha⟩
    clear cc
    have qq3 := Ha.sl.cell (b := G) (o := 3) (.here _ _) rfl
    have K3 := Lib.hid Ha
    clear Ha
    go_wp2_with fail
    clear qq3
    have cc := Lib.hid (rwuint_c K3.out NN hN64.out.1 (by have := hL.out; simp only [List.length_append, List.length_nil]; omega))
    clear K3
    unfold ptrV at cc
    refine cc.out.mono ?_
    rintro e wd ⟨⟨vv, rfl⟩, Ha⟩
    clear cc
    have qq4 := Ha.sl.cell (b := G) (o := 4) (.here _ _) rfl
    have K4 := Lib.hid Ha
    clear Ha
    go_wp2_with fail
    clear qq4
    have cc := Lib.hid (rwuint_c K4.out BY (by omega) (by have := hL.out; simp only [List.length_append, List.length_nil]; omega))
    clear K4
    unfold ptrV at cc
    refine cc.out.mono ?_
    rintro e we ⟨⟨vv, rfl⟩, Ha⟩
    clear cc
    have qq2 := Ha.sl.cell (b := G) (o := 2) (.here _ _) rfl
    have qq5 := Ha.sl.cell (b := G) (o := 5) (.here _ _) rfl
    have qq6 := Ha.sl.cell (b := G) (o := 6) (.here _ _) rfl
    have qq8 := Ha.sl.cell (b := G) (o := 8) (.here _ _) rfl
    have K5 := Lib.hid Ha
    clear Ha
    by_cases hk2 : KI = 2
    · have hkb : ((KI : Int) == 2) = true := by simp; omega
      have hkg : (2 : Int) ≤ (KI : Int) := by omega
      have hkg2 : 2 ≤ KI := by omega
      have hk2' := Lib.hid hk2
      clear hk2
      go_wp2_with fail
      clear qq2 qq5 qq6 qq8
      have cc := Lib.hid (rwuint_c K5.out SQ hN64.out.2.1 (by have := hL.out; simp only [List.length_append, List.length_nil]; omega))
      clear K5
      unfold ptrV at cc
      refine cc.out.mono ?_
      rintro e wf ⟨⟨vv, rfl⟩, Ha⟩
      clear cc
      have qq2 := Ha.sl.cell (b := G) (o := 2) (.here _ _) rfl
      have qq6 := Ha.sl.cell (b := G) (o := 6) (.here _ _) rfl
      have K6 := Lib.hid Ha
      clear Ha
      go_wp2_with fail
      clear qq2 qq6
      have cc := Lib.hid (rwuint_c K6.out AK hN64.out.2.2.1 (by have := hL.out; simp only [List.length_append, List.length_nil]; omega))
      clear K6
      unfold ptrV at cc
      refine cc.out.mono ?_
      rintro e wg ⟨⟨vv, rfl⟩, Ha⟩
      clear cc
      have qq2 := Ha.sl.cell (b := G) (o := 2) (.here _ _) rfl
      have qq7 := Ha.sl.cell (b := G) (o := 7) (.here _ _) rfl
      have K7 := Lib.hid Ha
      clear Ha
      go_wp2_with fail
      clear qq2 qq7
      have cc := Lib.hid (rwuint_c K7.out MK hN64.out.2.2.2 (by have := hL.out; simp only [List.length_append, List.length_nil]; omega))
      clear K7
      unfold ptrV at cc
      refine cc.out.mono ?_
      rintro e wh ⟨⟨vv, rfl⟩, Ha⟩
      clear cc
      have qq2 := Ha.sl.cell (b := G) (o := 2) (.here _ _) rfl
      have qq8 := Ha.sl.cell (b := G) (o := 8) (.here _ _) rfl
      have K8 := Lib.hid Ha
      clear Ha
      go_wp2_with fail
      clear qq2 qq8
      have hdl9 : dl ≤ 900 := by have := hg2.out (by have := hk2'.out; omega); rw [hdl'.out] at this; exact this
      have cc0 := rwtext_c K8.out a c g.data 900 (by rw [hdl'.out]; omega) (by rw [hdl'.out]; omega) (by have := hL.out; simp only [List.length_append, List.length_nil]; omega) hnil'.out (fun V h => hr'.out V h.tail)
      rw [hdl'.out] at cc0
      have cc := Lib.hid cc0
      clear cc0 K8
      unfold ptrV at cc
      refine cc.out.mono ?_
      rintro e wi ⟨⟨vv, rfl⟩, Ha⟩
      clear cc
      have K9 := Lib.hid Ha
      clear Ha
      obtain ⟨oa, oc, HS⟩ := K9.out
      have cb0 := HS.cell (b := p) (o := 0) (.here _ _) rfl
      have hWe : Hid (sealI ([] ++ nB KI ++ nB FR ++ nB DS ++ nB NN ++ nB BY ++ nB SQ ++ nB AK ++ nB MK ++ (nB dl ++ g.data)) = sealI (encI g)) := Lib.hid (by have n1 := hk2'.out; unfold encI; rw [hhead.out, show fldB g (fldN g.kind) = _ from by rw [hfld.out, if_neg (show ¬ KI = 1 by omega), if_neg (show ¬ KI = 3 by omega)], if_pos (show g.kind = 2 by rw [hK1.out]; omega)]; simp only [List.append_assoc, List.nil_append, List.append_nil, hdl'.out])
      have hWby : Hid (∀ x ∈ [] ++ nB KI ++ nB FR ++ nB DS ++ nB NN ++ nB BY ++ nB SQ ++ nB AK ++ nB MK ++ (nB dl ++ g.data), byteK x) := Lib.hid (by repeat' (first | exact nB_bytes _ | exact hdy.out | exact nil_bytes | refine app_bytes ?_ ?_))
      have csl := Lib.hid (rseal_c HS rfl (by have := hL.out; have := nB_len64 (n := dl) (by omega); simp only [List.length_append, List.length_nil, hdl'.out]; omega) (own_nil (l := [] ++ nB KI ++ nB FR ++ nB DS ++ nB NN ++ nB BY ++ nB SQ ++ nB AK ++ nB MK ++ (nB dl ++ g.data)) (HS.ownOf (.there (.here _ _)))) (OwnK.rdB (show OwnK _ 0 5 1 (.slice oa ([] ++ nB KI ++ nB FR ++ nB DS ++ nB NN ++ nB BY ++ nB SQ ++ nB AK ++ nB MK ++ (nB dl ++ g.data)).length oc) ([] ++ nB KI ++ nB FR ++ nB DS ++ nB NN ++ nB BY ++ nB SQ ++ nB AK ++ nB MK ++ (nB dl ++ g.data)).length (bv ([] ++ nB KI ++ nB FR ++ nB DS ++ nB NN ++ nB BY ++ nB SQ ++ nB AK ++ nB MK ++ (nB dl ++ g.data))) from HS.ownOf (.there (.here _ _)))).2.2 hWby.out)
      clear HS K9
      generalize [] ++ nB KI ++ nB FR ++ nB DS ++ nB NN ++ nB BY ++ nB SQ ++ nB AK ++ nB MK ++ (nB dl ++ g.data) = WW at *
      go_wp2_with fail
      refine csl.out.mono ?_
      rintro e wn ⟨ya, yc, rfl, HN⟩
      clear csl cb0
      rw [hWe.out] at HN
      have HZ := Lib.hid (HN.re (.step (.here _ _) (.drop (.drop (.drop (.same _))))))
      clear HN
      go_wp2_with fail
      exact hgo.out _ _ ya yc (by rw [← hWe.out]; rfl) HZ.out
    have hkb : ((KI : Int) == 2) = false := by simp; omega
    by_cases hk3 : KI = 3
    · have hkg : (2 : Int) ≤ (KI : Int) := by omega
      have hkg2 : 2 ≤ KI := by omega
      have hk3' := Lib.hid hk3
      clear hk2 hk3
      go_wp2_with fail
      clear qq2 qq5 qq6 qq8
      have cc := Lib.hid (rwuint_c K5.out AK hN64.out.2.2.1 (by have := hL.out; simp only [List.length_append, List.length_nil]; omega))
      clear K5
      unfold ptrV at cc
      refine cc.out.mono ?_
      rintro e wg ⟨⟨vv, rfl⟩, Ha⟩
      clear cc
      have qq2 := Ha.sl.cell (b := G) (o := 2) (.here _ _) rfl
      have qq7 := Ha.sl.cell (b := G) (o := 7) (.here _ _) rfl
      have K7 := Lib.hid Ha
      clear Ha
      go_wp2_with fail
      clear qq2 qq7
      have cc := Lib.hid (rwuint_c K7.out MK hN64.out.2.2.2 (by have := hL.out; simp only [List.length_append, List.length_nil]; omega))
      clear K7
      unfold ptrV at cc
      refine cc.out.mono ?_
      rintro e wh ⟨⟨vv, rfl⟩, Ha⟩
      clear cc
      have qq2 := Ha.sl.cell (b := G) (o := 2) (.here _ _) rfl
      have qq8 := Ha.sl.cell (b := G) (o := 8) (.here _ _) rfl
      have K8 := Lib.hid Ha
      clear Ha
      obtain ⟨oa, oc, HS⟩ := K8.out
      have cb0 := HS.cell (b := p) (o := 0) (.here _ _) rfl
      have hWe : Hid (sealI ([] ++ nB KI ++ nB FR ++ nB DS ++ nB NN ++ nB BY ++ nB AK ++ nB MK) = sealI (encI g)) := Lib.hid (by have n1 := hk3'.out; unfold encI; rw [hhead.out, show fldB g (fldN g.kind) = _ from by rw [hfld.out, if_neg (show ¬ KI = 1 by omega), if_pos (show KI = 3 by omega)], if_neg (show ¬ g.kind = 2 by rw [hK1.out]; omega)]; simp only [List.append_assoc, List.nil_append, List.append_nil, hdl'.out])
      have hWby : Hid (∀ x ∈ [] ++ nB KI ++ nB FR ++ nB DS ++ nB NN ++ nB BY ++ nB AK ++ nB MK, byteK x) := Lib.hid (by repeat' (first | exact nB_bytes _ | exact hdy.out | exact nil_bytes | refine app_bytes ?_ ?_))
      have csl := Lib.hid (rseal_c HS rfl (by have := hL.out; simp only [List.length_append, List.length_nil]; omega) (own_nil (l := [] ++ nB KI ++ nB FR ++ nB DS ++ nB NN ++ nB BY ++ nB AK ++ nB MK) (HS.ownOf (.there (.here _ _)))) (OwnK.rdB (show OwnK _ 0 5 1 (.slice oa ([] ++ nB KI ++ nB FR ++ nB DS ++ nB NN ++ nB BY ++ nB AK ++ nB MK).length oc) ([] ++ nB KI ++ nB FR ++ nB DS ++ nB NN ++ nB BY ++ nB AK ++ nB MK).length (bv ([] ++ nB KI ++ nB FR ++ nB DS ++ nB NN ++ nB BY ++ nB AK ++ nB MK)) from HS.ownOf (.there (.here _ _)))).2.2 hWby.out)
      clear HS K8
      generalize [] ++ nB KI ++ nB FR ++ nB DS ++ nB NN ++ nB BY ++ nB AK ++ nB MK = WW at *
      go_wp2_with fail
      clear qq2 qq8
      refine csl.out.mono ?_
      rintro e wn ⟨ya, yc, rfl, HN⟩
      clear csl cb0
      rw [hWe.out] at HN
      have HZ := Lib.hid (HN.re (.step (.here _ _) (.drop (.drop (.drop (.same _))))))
      clear HN
      go_wp2_with fail
      exact hgo.out _ _ ya yc (by rw [← hWe.out]; rfl) HZ.out
    · have hk1 : KI = 1 := by omega
      have hk1' := Lib.hid hk1
      have hkg : decide ((2 : Int) ≤ (KI : Int)) = false := by simp; omega
      have hkg2 : ¬ 2 ≤ KI := by omega
      have hkg3 : decide (2 ≤ KI) = false := by simp; omega
      clear hk2 hk3 hk1
      obtain ⟨oa, oc, HS⟩ := K5.out
      have cb0 := HS.cell (b := p) (o := 0) (.here _ _) rfl
      have hWe : Hid (sealI ([] ++ nB KI ++ nB FR ++ nB DS ++ nB NN ++ nB BY) = sealI (encI g)) := Lib.hid (by have n1 := hk1'.out; unfold encI; rw [hhead.out, show fldB g (fldN g.kind) = _ from by rw [hfld.out, if_pos (show KI = 1 by omega)], if_neg (show ¬ g.kind = 2 by rw [hK1.out]; omega)]; simp only [List.append_assoc, List.nil_append, List.append_nil, hdl'.out])
      have hWby : Hid (∀ x ∈ [] ++ nB KI ++ nB FR ++ nB DS ++ nB NN ++ nB BY, byteK x) := Lib.hid (by repeat' (first | exact nB_bytes _ | exact hdy.out | exact nil_bytes | refine app_bytes ?_ ?_))
      have csl := Lib.hid (rseal_c HS rfl (by have := hL.out; simp only [List.length_append, List.length_nil]; omega) (own_nil (l := [] ++ nB KI ++ nB FR ++ nB DS ++ nB NN ++ nB BY) (HS.ownOf (.there (.here _ _)))) (OwnK.rdB (show OwnK _ 0 5 1 (.slice oa ([] ++ nB KI ++ nB FR ++ nB DS ++ nB NN ++ nB BY).length oc) ([] ++ nB KI ++ nB FR ++ nB DS ++ nB NN ++ nB BY).length (bv ([] ++ nB KI ++ nB FR ++ nB DS ++ nB NN ++ nB BY)) from HS.ownOf (.there (.here _ _)))).2.2 hWby.out)
      clear HS K5
      generalize [] ++ nB KI ++ nB FR ++ nB DS ++ nB NN ++ nB BY = WW at *
      go_wp2_with fail
      clear qq2 qq5 qq6 qq8
      refine csl.out.mono ?_
      rintro e wn ⟨ya, yc, rfl, HN⟩
      clear csl cb0
      rw [hWe.out] at HN
      have HZ := Lib.hid (HN.re (.step (.here _ _) (.drop (.drop (.drop (.same _))))))
      clear HN
      go_wp2_with fail
      exact hgo.out _ _ ya yc (by rw [← hWe.out]; rfl) HZ.out
  · have hk0 := Lib.hid (hchk.out _ _ hH.out false (decide_eq_false hm))
    have hE := Lib.hid (hbad.out hm)
    have q0 := hH.out.cell (o := 0) (.here _ _) rfl
    have q1 := hH.out.cell (o := 1) (.here _ _) rfl
    have q2 := hH.out.cell (o := 2) (.here _ _) rfl
    have q3 := hH.out.cell (o := 3) (.here _ _) rfl
    have q4 := hH.out.cell (o := 4) (.here _ _) rfl
    have q5 := hH.out.cell (o := 5) (.here _ _) rfl
    have q6 := hH.out.cell (o := 6) (.here _ _) rfl
    have q7 := hH.out.cell (o := 7) (.here _ _) rfl
    have q8 := hH.out.cell (o := 8) (.here _ _) rfl
    clear hm hbad hgood hdy
    go_enter Tryd.func10, Tryd.ntmps10
    go_wp2_with fail
    refine hk0.out.mono ?_
    rintro e w2 ⟨rfl, H2⟩
    have hH2 := Lib.hid H2.tail
    clear hk0 H2
    go_wp2_with fail
    exact hE.out _ _ rfl hH2.out
end Go.Proofs.YtilpkfgdlehmpaaDoor
