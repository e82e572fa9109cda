/- gram.Encode. -/
import Derived.Test.YtilpkfgdlehmpaaDoorWrtB
import Derived.Test.YtilpkfgdlehmpaaDoorChk
import Derived.Test.YtilpkfgdlehmpaaDoorSealS
namespace Go.Proofs.YtilpkfgdlehmpaaDoor
open Go.RowKit Go.Shelf
set_option linter.unusedVariables false
attribute [local go_sem] Oper.semAt_some

/-- A datagram's bytes, without their sum. -/
def fldB (g : Gm) (ys : List (Nat × Int)) : List Int := ys.flatMap fun y => nB (fvK g y.1).toNat
def headB (g : Gm) : List Int := nB g.kind.toNat ++ nB g.fr.toNat ++ nB g.dst.toNat ++ nB g.n.toNat ++ nB g.by'.toNat
def encI (g : Gm) : List Int := headB g ++ fldB g (fldN g.kind) ++ (if g.kind = 2 then nB g.data.length ++ g.data else [])
/-- The answer: bytes, and the error. -/
def encR (g : Gm) : List Int × Int := if mayK g then (sealI (encI g), 0) else ([], 180)
def EncPost (g : Gm) (L : List Pc) (e : Ending) (w' : World) : Prop := ∃ a c, e = .returned (.tuple #[.slice a (encR g).1.length c, .int .i64 (encR g).2]) ∧ SL w' (.own 5 1 (.slice a (encR g).1.length c) (encR g).1.length (bv (encR g).1) :: L)
theorem fldB_snoc {g : Gm} {ys : List (Nat × Int)} {i : Nat} (hi : i < ys.length) : fldB g (ys.take (i + 1)) = fldB g (ys.take i) ++ nB (fvK g (ys[i]'hi).1).toNat := by
  rw [List.take_succ_eq_append_getElem hi]
  unfold fldB
  rw [List.flatMap_append]
  simp
theorem gm_at {kind : Int} {g : Gm} {d : Value} {i : Nat} (hi : i < (fldN kind).length) : (gmC g d)[((fldN kind)[i]'hi).1]? = some (.int .u64 (fvK g ((fldN kind)[i]'hi).1)) := by
  have hm := List.getElem_mem hi
  generalize (fldN kind)[i]'hi = y at *
  unfold fldN at hm
  split at hm
  · cases hm
  · split at hm
    · simp at hm; rcases hm with rfl | rfl <;> rfl
    · simp at hm; rcases hm with rfl | rfl | rfl <;> rfl
theorem fvK_ok {g : Gm} (ok : GmOk g) (q : Nat) : U64 (fvK g q) := by
  unfold fvK
  split
  · exact ok.seq
  · split
    · exact ok.ack
    · exact ok.mask
theorem nB_lenI {z : Int} (h : U64 z) : (nB z.toNat).length ≤ 10 := nB_len64 (by unfold U64 at h; omega)
theorem fldB_len {g : Gm} (ok : GmOk g) : ∀ ys : List (Nat × Int), (fldB g ys).length ≤ 10 * ys.length
  | [] => by simp [fldB]
  | y :: ys => by
    have ih := fldB_len ok ys
    have h := nB_lenI (fvK_ok ok y.1)
    unfold fldB at *
    simp only [List.flatMap_cons, List.length_append, List.length_cons]
    omega

theorem enode_c {p b : Nat} {bs : List Int} {L : List Pc} {w : World} (H : WrAt p bs (.blk b [ptrV p] 49 :: L) w) (n : Nat) (hn : n ≤ 63) (hb : bs.length ≤ 6000) :
    Calls Tryd.prog 25 #[.int .i64 (n : Int), ptrV b] w fun e w' => (∃ v, e = .returned v) ∧ WrAt p (bs ++ nB n) (.blk b [ptrV p] 49 :: L) w' := by
  have hs := Lib.hid (wsmall_c H n 63 (by omega) hb)
  have c0 := H.sl.cell (b := b) (o := 0) (.here _ _) rfl
  clear H
  unfold ptrV at *
  go_enter Tryd.func25, Tryd.ntmps25
  go_wp2_with fail
  refine hs.out.mono ?_
  rintro e w2 ⟨⟨v, rfl⟩, H2⟩
  have hH := Lib.hid H2
  clear hs H2
  go_wp2_with fail
  go_end0
  exact ⟨⟨_, rfl⟩, hH.out⟩
set_option maxRecDepth 100000 in
set_option maxHeartbeats 8000000 in
theorem enc_c (g : Gm) (ok : GmOk g) (a : Option Addr) (c : Nat) {L : List Pc} {w : World} (H : SL w L) (hnil : a = none → c = 0) (hl : g.data.length ≤ 1000) (hr : ∀ V, SL V L → RdB V a g.data) :
    Calls Tryd.prog 9 #[gmV g (.slice a g.data.length c)] w (EncPost g L) := by
  have hmx : Tryd.prog.follows .mixedOrders = true := by kernel_rfl
  have hH := Lib.hid (H.alloc (gmC g (.slice a g.data.length c)) 25)
  have hr' := Lib.hid hr
  have hnil' := Lib.hid hnil
  have hchk := Lib.hid (fun w L H E hE => chk_c g ok a c (w := w) (L := L) H E hE)
  have hok := Lib.hid ok
  have hbad : Hid (¬ mayK g → ∀ e w', e = .returned (.tuple #[.slice none 0 0, .int .i64 180]) → SL w' L → EncPost g L e w') := Lib.hid fun h e w' he hw => by
    unfold EncPost encR
    rw [if_neg h]
    exact ⟨none, 0, he, hw.pure (OwnK.nil _ _ _ _) (fun b hb => by cases hb)⟩
  have hgood : Hid (mayK g → ∀ e w' a' c', e = .returned (.tuple #[.slice a' (sealI (encI g)).length c', .int .i64 0]) → SL w' (.own 5 1 (.slice a' (sealI (encI g)).length c') (sealI (encI g)).length (bv (sealI (encI g))) :: L) → EncPost g L e w') := Lib.hid fun h e w' a' c' he hw => by
    unfold EncPost encR
    rw [if_pos h]
    exact ⟨a', c', he, hw⟩
  obtain ⟨P, hP⟩ : ∃ P, EncPost g L = P := ⟨_, rfl⟩
  rw [hP] at hbad hgood ⊢
  have hdy := Lib.hid ok.data
  clear hP H hr hnil ok
  have hHg := hH
  obtain ⟨dl, hdl⟩ : ∃ dl, g.data.length = dl := ⟨_, rfl⟩
  have hdl' := Lib.hid hdl
  rw [hdl] at hH hchk hl ⊢
  clear hdl
  have hgv : gmV g (.slice a dl c) = .agg #[.int .i64 g.fr, .int .i64 g.dst, .int .i64 g.kind, .int .u64 g.n, .int .i64 g.by', .int .u64 g.seq, .int .u64 g.ack, .int .u64 g.mask, .slice a dl c] := rfl
  rw [hgv] at hchk ⊢
  clear hgv
  unfold gmC at hH
  by_cases hm : mayK g
  · have hm1 := hm.1
    have hm2 := hm.2.1
    have hm3 := hm.2.2.1
    have hm4 : 1 ≤ g.kind ∧ g.kind ≤ 3 := by have := hm.2.2.2.2; unfold formK at this; omega
    have hg2 : Hid (g.kind = 2 → g.data.length ≤ 900) := Lib.hid fun h => by have := hm.2.2.2.2; unfold formK at this; omega
    unfold nodeK at hm1 hm2 hm3
    have hk0 := Lib.hid (hchk.out _ _ hH.out 0 (by rw [if_pos hm]))
    have hgo := Lib.hid (hgood.out hm)
    have hnU := Lib.hid (fvK_ok hok.out)
    have hn0 := hok.out.n
    have h5 : (headB g).length ≤ 50 := by
      have a1 := nB_lenI (z := g.kind) (by unfold U64; omega)
      have a2 := nB_lenI (z := g.fr) (by unfold U64; omega)
      have a3 := nB_lenI (z := g.dst) (by unfold U64; omega)
      have a4 := nB_lenI hn0
      have a5 := nB_lenI (z := g.by') (by unfold U64; omega)
      unfold headB
      simp only [List.length_append]
      omega
    have hfl := Lib.hid (fun i => fldB_len hok.out ((fldN g.kind).take i))
    obtain ⟨KI, hKI⟩ := Int.eq_ofNat_of_zero_le (show 0 ≤ g.kind by omega)
    obtain ⟨FR, hFR⟩ := Int.eq_ofNat_of_zero_le hm1.1
    obtain ⟨DS, hDS⟩ := Int.eq_ofNat_of_zero_le hm2.1
    obtain ⟨NN, hNN⟩ := Int.eq_ofNat_of_zero_le hn0.1
    obtain ⟨BY, hBY⟩ := Int.eq_ofNat_of_zero_le hm3.1
    have hL : Hid ((nB KI).length ≤ 10 ∧ (nB FR).length ≤ 10 ∧ (nB DS).length ≤ 10 ∧ (nB NN).length ≤ 10 ∧ (nB BY).length ≤ 10) := Lib.hid ⟨nB_len64 (by omega), nB_len64 (by omega), nB_len64 (by omega), nB_len64 (by have := hn0.2; omega), nB_len64 (by omega)⟩
    have hhead : Hid (headB g = nB KI ++ nB FR ++ nB DS ++ nB NN ++ nB BY) := Lib.hid (by unfold headB; rw [hKI, hFR, hDS, hNN, hBY]; rfl)
    have hNN2 : Hid (NN < 18446744073709551616) := Lib.hid (by have := hn0.2; omega)
    rw [hKI] at hm4
    rw [hFR] at hm1
    rw [hDS] at hm2
    rw [hBY] at hm3
    rw [hKI, hFR, hDS, hNN, hBY] at hH hk0 ⊢
    refine calls_of_marks Tryd.func9 rfl ?_
    simp only [Tryd.ntmps9, List.size_toArray, List.length_cons, List.length_nil, Nat.reduceAdd, Nat.reduceSub, Array.replicate_succ, Array.replicate_zero, List.push_toArray, List.append_toArray, List.nil_append, List.cons_append]
    have q0 := hH.out.cell (o := 0) (.here _ _) rfl
    have q1 := hH.out.cell (o := 1) (.here _ _) rfl
    have q2 := hH.out.cell (o := 2) (.here _ _) rfl
    have q3 := hH.out.cell (o := 3) (.here _ _) rfl
    have q4 := hH.out.cell (o := 4) (.here _ _) rfl
    have q5 := hH.out.cell (o := 5) (.here _ _) rfl
    have q6 := hH.out.cell (o := 6) (.here _ _) rfl
    have q7 := hH.out.cell (o := 7) (.here _ _) rfl
    have q8 := hH.out.cell (o := 8) (.here _ _) rfl
    clear hm hbad hgood hHg
    gi_wp2_with fail
    generalize w.alloc (.cells [Value.int .i64 FR, .int .i64 DS, .int .i64 KI, .int .u64 NN, .int .i64 BY, .int .u64 g.seq, .int .u64 g.ack, .int .u64 g.mask, .slice a dl c].toArray 25) = w1 at *
    generalize w.heap.size = G at *
    refine ⟨trivial, rfl, calls_in (hk0.out.mono ?_)⟩
    rintro e w2 ⟨rfl, H2⟩
    clear hk0 q0 q1 q2 q3 q4 q5 q6 q7 q8
    have hnw := Lib.hid (neww_c H2)
    clear H2 hH
    gi_wp2_with fail
    refine ⟨trivial, rfl, calls_in (hnw.out.mono ?_)⟩
    rintro e w3 ⟨p, rfl, H3⟩
    clear hnw
    have H4 := Lib.hid (H3.alloc [ptrV p] 49)
    have q2 := H3.sl.cell (b := G) (o := 2) (.here _ _) rfl
    have hlt := cell_lt q2
    clear H3
    unfold ptrV at *
    gi_wp2_with fail
    generalize w3.alloc (.cells [Value.pointer (some ⟨p, 0, none⟩)].toArray 49) = w4 at *
    generalize w3.heap.size = b5 at *
    clear q2 hlt
    have cc := Lib.hid (wsmall_c H4.out KI 3 (by omega) (by simp))
    clear H4
    unfold ptrV at cc
    refine ⟨trivial, rfl, calls_in (cc.out.mono ?_)⟩
    rintro e wa ⟨⟨v0, rfl⟩, Ha⟩
    clear cc
    have b50 := Ha.sl.cell (b := b5) (o := 0) (.here _ _) rfl
    have qq := Ha.sl.cell (b := G) (o := 0) (.there (.here _ _)) rfl
    have K1 := Lib.hid Ha
    clear Ha
    gi_wp2_with fail
    clear b50 qq
    have cc := Lib.hid (enode_c K1.out FR (by omega) (by have := hL.out; simp only [List.length_append, List.length_nil]; omega))
    clear K1
    unfold ptrV at cc
    refine ⟨trivial, rfl, calls_in (cc.out.mono ?_)⟩
    rintro e wb ⟨⟨v1, rfl⟩, Ha⟩
    clear cc
    have b50 := Ha.sl.cell (b := b5) (o := 0) (.here _ _) rfl
    have qq := Ha.sl.cell (b := G) (o := 1) (.there (.here _ _)) rfl
    have K2 := Lib.hid Ha
    clear Ha
    gi_wp2_with fail
    clear b50 qq
    have cc := Lib.hid (enode_c K2.out DS (by omega) (by have := hL.out; simp only [List.length_append, List.length_nil]; omega))
    clear K2
    unfold ptrV at cc
    refine ⟨trivial, rfl, calls_in (cc.out.mono ?_)⟩
    rintro e wc ⟨⟨v2, rfl⟩, Ha⟩
    clear cc
    have b50 := Ha.sl.cell (b := b5) (o := 0) (.here _ _) rfl
    have qq := Ha.sl.cell (b := G) (o := 3) (.there (.here _ _)) rfl
    have K3 := Lib.hid Ha
    clear Ha
    gi_wp2_with fail
    clear b50 qq
    have cc := Lib.hid (wuint_c K3.out NN hNN2.out (by have := hL.out; simp only [List.length_append, List.length_nil]; omega))
    clear K3
    unfold ptrV at cc
    refine ⟨trivial, rfl, calls_in (cc.out.mono ?_)⟩
    rintro e wd ⟨⟨v3, rfl⟩, Ha⟩
    clear cc
    have b50 := Ha.sl.cell (b := b5) (o := 0) (.here _ _) rfl
    have qq := Ha.sl.cell (b := G) (o := 4) (.there (.here _ _)) rfl
    have K4 := Lib.hid Ha
    clear Ha
    gi_wp2_with fail
    clear b50 qq
    have cc := Lib.hid (enode_c K4.out BY (by omega) (by have := hL.out; simp only [List.length_append, List.length_nil]; omega))
    clear K4
    unfold ptrV at cc
    refine ⟨trivial, rfl, calls_in (cc.out.mono ?_)⟩
    rintro e we ⟨⟨v4, rfl⟩, Ha⟩
    clear cc
    have b50 := Ha.sl.cell (b := b5) (o := 0) (.here _ _) rfl
    have qq := Ha.sl.cell (b := G) (o := 2) (.there (.here _ _)) rfl
    have K5 := Lib.hid Ha
    clear Ha
    obtain ⟨oa, oc, HS⟩ := K5.out
    have cf := Lib.hid (fields_c G (KI : Int) HS (HS.cell (b := G) (o := 2) (.there (.there (.there (.here _ _)))) rfl))
    clear K5
    unfold ptrV at cf
    gi_wp2_with fail
    clear b50 qq
    refine ⟨trivial, rfl, calls_in (cf.out.mono ?_)⟩
    rintro e wf ⟨A, B, rfl, HF⟩
    clear cf HS
    have HE := Lib.hid (SL.comm (A := [_, _]) HF)
    clear HF
    rw [show [] ++ nB KI ++ nB FR ++ nB DS ++ nB NN ++ nB BY = headB g from by rw [hhead.out, List.nil_append]] at HE
    unfold ptrV at *
    gi_wp2_with fail
    have hgc : Hid (gmC g (.slice a dl c) = [Value.int .i64 FR, .int .i64 DS, .int .i64 KI, .int .u64 NN, .int .i64 BY, .int .u64 g.seq, .int .u64 g.ack, .int .u64 g.mask, .slice a dl c]) := Lib.hid (by unfold gmC; rw [hKI, hFR, hDS, hNN, hBY])
    have hK1 := Lib.hid hKI
    clear hKI hFR hDS hNN hBY hm1 hm2 hm3 hn0
    rw [hK1.out] at hfl hg2
    have hgiv := Lib.hid (fields_gives A B G (KI : Int))
    refine wp_rangeS rfl egF hgiv.out (by intro x hx; obtain ⟨k, _, rfl⟩ := List.mem_map.1 hx; rfl)
      (fun i L' => ∃ sa sc, L' = .blk p [.slice sa (headB g ++ fldB g ((fldN (KI : Int)).take i)).length sc, .bool true, .bool false] 88 :: .own 5 1 (.slice sa (headB g ++ fldB g ((fldN (KI : Int)).take i)).length sc) (headB g ++ fldB g ((fldN (KI : Int)).take i)).length (bv (headB g ++ fldB g ((fldN (KI : Int)).take i))) :: .blk b5 [.pointer (some ⟨p, 0, none⟩)] 49 :: .blk G [.int .i64 FR, .int .i64 DS, .int .i64 KI, .int .u64 NN, .int .i64 BY, .int .u64 g.seq, .int .u64 g.ack, .int .u64 g.mask, .slice a dl c] 25 :: L)
      (fun _ _ _ => False)
      (L0 := .blk p [.slice oa (headB g).length oc, .bool true, .bool false] 88 :: .own 5 1 (.slice oa (headB g).length oc) (headB g).length (bv (headB g)) :: .blk b5 [.pointer (some ⟨p, 0, none⟩)] 49 :: .blk G [.int .i64 FR, .int .i64 DS, .int .i64 KI, .int .u64 NN, .int .i64 BY, .int .u64 g.seq, .int .u64 g.ack, .int .u64 g.mask, .slice a dl c] 25 :: L)
      ⟨oa, oc, by rw [List.take_zero, show fldB g [] = [] from rfl, List.append_nil]⟩ HE.out ?_ ?_ ?_
    · rintro i hi V ll _ T ⟨sa, sc, rfl⟩ H
      have hil : i < (fldN (KI : Int)).length := by rw [fldY_length] at hi; exact hi
      have hx : (fldY G (fldN (KI : Int)))[i]'hi = #[.agg #[.pointer (some ⟨G, ((fldN (KI : Int))[i]'hil).1, none⟩), .int .u64 ((fldN (KI : Int))[i]'hil).2]] := by simp [fldY]
      rw [hx]
      have hsn := fldB_snoc (g := g) hil
      have hgat := gm_at (g := g) (d := .slice a dl c) hil
      have hlen := hfl.out i
      have hl3 : ((fldN (KI : Int)).take i).length ≤ 3 := by rw [List.length_take]; have := fldN_len (KI : Int); omega
      have hq8 := fldN_lt (KI : Int) _ (List.getElem_mem hil)
      generalize ((fldN (KI : Int))[i]'hil).1 = q at *
      generalize ((fldN (KI : Int))[i]'hil).2 = M at *
      have hQ := hnU.out q
      generalize fvK g q = Q at *
      obtain ⟨N, rfl⟩ := Int.eq_ofNat_of_zero_le hQ.1
      have hN : Hid (N < 18446744073709551616) := Lib.hid (by have := hQ.2; omega)
      rw [Int.toNat_natCast] at hsn
      have hnx : Hid (headB g ++ fldB g ((fldN (KI : Int)).take (i + 1)) = (headB g ++ fldB g ((fldN (KI : Int)).take i)) ++ nB N) := Lib.hid (by rw [hsn, List.append_assoc])
      have hl80 : (headB g ++ fldB g ((fldN (KI : Int)).take i)).length ≤ 80 := by rw [List.length_append]; omega
      generalize headB g ++ fldB g ((fldN (KI : Int)).take i) = l at *
      rw [hgc.out] at hgat
      have hgat' := Lib.hid hgat
      clear hx hsn hlen hl3 hQ HE hgat
      gi_wp2_with fail
      have H1 := H.alloc [.pointer (some ⟨G, q, none⟩), .int .u64 M] 60
      generalize V.heap.size = S at *
      refine ⟨.blk S [.pointer (some ⟨G, q, none⟩), .int .u64 M] 60 :: .blk p [.slice sa l.length sc, .bool true, .bool false] 88 :: .own 5 1 (.slice sa l.length sc) l.length (bv l) :: .blk b5 [.pointer (some ⟨p, 0, none⟩)] 49 :: .blk G [.int .i64 FR, .int .i64 DS, .int .i64 KI, .int .u64 NN, .int .i64 BY, .int .u64 g.seq, .int .u64 g.ack, .int .u64 g.mask, .slice a dl c] 25 :: L, H1, ?_⟩
      clear H1 H
      intro V2 T2 H
      obtain ⟨ZZ, hZZ⟩ : ∃ ZZ, L ++ ([.blk B [fldS A (KI : Int)] 92, fldP A G] ++ T2) = ZZ := ⟨_, rfl⟩
      have hH : Hid (WrAt p l (.blk S [.pointer (some ⟨G, q, none⟩), .int .u64 M] 60 :: .blk b5 [.pointer (some ⟨p, 0, none⟩)] 49 :: .blk G [.int .i64 FR, .int .i64 DS, .int .i64 KI, .int .u64 NN, .int .i64 BY, .int .u64 g.seq, .int .u64 g.ack, .int .u64 g.mask, .slice a dl c] 25 :: ZZ) V2) := Lib.hid ⟨sa, sc, (show SL V2 (.blk S [.pointer (some ⟨G, q, none⟩), .int .u64 M] 60 :: .blk p [.slice sa l.length sc, .bool true, .bool false] 88 :: .own 5 1 (.slice sa l.length sc) l.length (bv l) :: .blk b5 [.pointer (some ⟨p, 0, none⟩)] 49 :: .blk G [.int .i64 FR, .int .i64 DS, .int .i64 KI, .int .u64 NN, .int .i64 BY, .int .u64 g.seq, .int .u64 g.ack, .int .u64 g.mask, .slice a dl c] 25 :: ZZ) from by rw [← hZZ]; exact H).re (.step (.there (.here _ _)) (.step (.there (.here _ _)) (.same _)))⟩
      have hZZ' := Lib.hid hZZ
      clear H hZZ
      gi_wp2_with fail
      refine region_round (S := (fun W => W.cell? ⟨S, 0, none⟩ = some (.pointer (some ⟨G, q, none⟩)) ∧ W.cell? ⟨b5, 0, none⟩ = some (.pointer (some ⟨p, 0, none⟩)) ∧ W.cell? ⟨G, q, none⟩ = some (.int .u64 (N : Int)))) (fun _ w => WrAt p (l ++ nB N) (.blk S [.pointer (some ⟨G, q, none⟩), .int .u64 M] 60 :: .blk b5 [.pointer (some ⟨p, 0, none⟩)] 49 :: .blk G [.int .i64 FR, .int .i64 DS, .int .i64 KI, .int .u64 NN, .int .i64 BY, .int .u64 g.seq, .int .u64 g.ack, .int .u64 g.mask, .slice a dl c] 25 :: ZZ) w) (by kernel_rfl) (by kernel_rfl) ?_ (fun hHeld => ?_) ?_
      · exact ⟨hH.out.drew.sl.cell (b := S) (o := 0) (.here _ _) rfl, hH.out.drew.sl.cell (b := b5) (o := 0) (.there (.here _ _)) rfl, hH.out.drew.sl.cell (b := G) (o := q) (.there (.there (.here _ _))) hgat'.out⟩
      have H := hH.out.drew
      generalize World.drew V2 = w5 at *
      clear hH
      refine takeL (i := 0) rfl (by kernel_rfl) (by kernel_rfl) (by kernel_rfl) (fun _ _ _ _ h => h) hHeld ?_ (Or.inl ⟨by rfl, ?_⟩) ?_
      rotate_left
      · intro W hW
        (try dsimp only at hW)
        first | (go_simp; done) | (go_simp; with_reducible rfl)
      ((try simp only [Act.put]); (try simp only [List.setIfInBounds_toArray]); (try simp only [List.set_cons_succ]); (try simp only [List.set_cons_zero]))
      refine takeL (i := 1) rfl (by kernel_rfl) (by kernel_rfl) (by kernel_rfl) (fun _ _ _ _ h => h) hHeld ?_ (Or.inl ⟨by rfl, ?_⟩) ?_
      rotate_left
      · intro W hW
        (try dsimp only at hW)
        first | (go_simp; done) | (go_simp; with_reducible rfl)
      ((try simp only [Act.put]); (try simp only [List.setIfInBounds_toArray]); (try simp only [List.set_cons_succ]); (try simp only [List.set_cons_zero]))
      refine takeL (i := 2) rfl (by kernel_rfl) (by kernel_rfl) (by kernel_rfl) (fun _ _ _ _ h => h) hHeld ?_ (Or.inl ⟨by rfl, ?_⟩) ?_
      rotate_left
      · intro W hW
        (try dsimp only at hW)
        first | (go_simp; done) | (go_simp; with_reducible rfl)
      ((try simp only [Act.put]); (try simp only [List.setIfInBounds_toArray]); (try simp only [List.set_cons_succ]); (try simp only [List.set_cons_zero]))
      refine takeL (i := 3) rfl (by kernel_rfl) (by kernel_rfl) (by kernel_rfl) (fun _ _ _ _ h => h) hHeld ?_ (Or.inl ⟨by rfl, ?_⟩) ?_
      rotate_left
      · intro W hW
        (try dsimp only at hW)
        first | (go_simp; done) | (go_simp; with_reducible rfl)
      ((try simp only [Act.put]); (try simp only [List.setIfInBounds_toArray]); (try simp only [List.set_cons_succ]); (try simp only [List.set_cons_zero]))
      refine takeL (i := 4) rfl (by kernel_rfl) (by kernel_rfl) (by kernel_rfl) (fun _ _ _ _ h => h) hHeld ?_ (Or.inl ⟨by rfl, ?_⟩) ?_
      rotate_left
      · intro W hW
        (try dsimp only at hW)
        first | (go_simp; done) | (go_simp; with_reducible rfl)
      ((try simp only [Act.put]); (try simp only [List.setIfInBounds_toArray]); (try simp only [List.set_cons_succ]); (try simp only [List.set_cons_zero]))
      refine callL (i := 5) rfl (by kernel_rfl) (fun K hK => ?_)
      rw [if_pos (by rfl)]
      have cc := Lib.hid (wuint_c H N hN.out (by omega))
      unfold ptrV at cc
      go_simp
      refine cc.out.mono ?_
      rintro e w7 ⟨⟨vv, rfl⟩, H7⟩
      clear H hHeld cc
      have H := H7
      clear H7
      refine hK.out _ _ ?_ (fun hHeld => ?_)
      · exact ⟨H.sl.cell (b := S) (o := 0) (.here _ _) rfl, H.sl.cell (b := b5) (o := 0) (.there (.here _ _)) rfl, H.sl.cell (b := G) (o := q) (.there (.there (.here _ _))) hgat'.out⟩
      clear hK K
      ((try simp only [Act.put]); (try simp only [List.setIfInBounds_toArray]); (try simp only [List.set_cons_succ]); (try simp only [List.set_cons_zero]))
      refine wpAnyH_done (by kernel_rfl) ?_ _
      exact H
      rintro act w8 ⟨pa2, pc2, H8⟩
      refine ⟨_, ⟨pa2, pc2, rfl⟩, ?_⟩
      simp only [← List.length_append]
      rw [hnx.out]
      rw [← hZZ'.out] at H8
      exact H8.re (.step (.here _ _) (.step (.here _ _) (.drop (.same _))))
    · rintro V _ D ⟨sa, sc, rfl⟩ H
      rw [fldY_length, List.take_length] at H
      have hfa := hfl.out (fldN (KI : Int)).length
      rw [List.take_length] at hfa
      have hl3 := fldN_len (KI : Int)
      have hl80 : (headB g ++ fldB g (fldN (KI : Int))).length ≤ 80 := by rw [List.length_append]; omega
      have hby0 : Hid (∀ x ∈ headB g ++ fldB g (fldN (KI : Int)), byteK x) := Lib.hid (by
        intro x hx
        rcases List.mem_append.1 hx with h | h
        · unfold headB at h
          simp only [List.mem_append] at h
          rcases h with (((h | h) | h) | h) | h <;> exact nB_bytes _ x h
        · unfold fldB at h
          obtain ⟨y, -, h⟩ := List.mem_flatMap.1 h
          exact nB_bytes _ x h)
      have hWe0 : Hid (encI g = headB g ++ fldB g (fldN (KI : Int)) ++ (if g.kind = 2 then nB g.data.length ++ g.data else [])) := Lib.hid (by unfold encI; rw [hK1.out])
      generalize headB g ++ fldB g (fldN (KI : Int)) = l at *
      have hT0 : Hid (WrAt p l (.blk b5 [.pointer (some ⟨p, 0, none⟩)] 49 :: .blk G [.int .i64 FR, .int .i64 DS, .int .i64 KI, .int .u64 NN, .int .i64 BY, .int .u64 g.seq, .int .u64 g.ack, .int .u64 g.mask, .slice a dl c] 25 :: .obj D (.deferred (some [])) :: L) V) := Lib.hid ⟨sa, sc,
        SL.dropEnd (A := [.blk p [.slice sa l.length sc, .bool true, .bool false] 88, .own 5 1 (.slice sa l.length sc) l.length (bv l), .blk b5 [.pointer (some ⟨p, 0, none⟩)] 49, .blk G [.int .i64 FR, .int .i64 DS, .int .i64 KI, .int .u64 NN, .int .i64 BY, .int .u64 g.seq, .int .u64 g.ack, .int .u64 g.mask, .slice a dl c] 25, .obj D (.deferred (some []))])
          (H.re (.step (.there (.here _ _)) (.step (.there (.here _ _)) (.step (.there (.here _ _)) (.step (.there (.here _ _)) (.same _))))))⟩
      clear H HE hgiv hfa hl3 hfl
      have q2 := hT0.out.sl.cell (b := G) (o := 2) (.there (.here _ _)) rfl
      have b50 := hT0.out.sl.cell (b := b5) (o := 0) (.here _ _) rfl
      by_cases hk2 : KI = 2
      · have hkb : ((KI : Int) == 2) = true := by simp; omega
        have q8 := hT0.out.sl.cell (b := G) (o := 8) (.there (.here _ _)) rfl
        have hdl9 : dl ≤ 900 := by have := hg2.out (by omega); rw [hdl'.out] at this; exact this
        have ctx := wtext_c hT0.out a c g.data 900 (by rw [hdl'.out]; omega) (by rw [hdl'.out]; omega) (by omega) hnil'.out (fun V h => hr'.out V h.tail.tail.tail)
        rw [hdl'.out] at ctx
        have hl2 : (l ++ nB dl ++ g.data).length ≤ 1000 := by have := nB_len64 (n := dl) (by omega); simp only [List.length_append, hdl'.out]; omega
        have hWe : Hid (sealI (l ++ nB dl ++ g.data) = sealI (encI g)) := Lib.hid (by rw [hWe0.out, if_pos (by rw [hK1.out]; omega), hdl'.out, List.append_assoc])
        have hWby : Hid (∀ x ∈ l ++ nB dl ++ g.data, byteK x) := Lib.hid fun x hx => by
          rcases List.mem_append.1 hx with h | h
          · rcases List.mem_append.1 h with h | h
            · exact hby0.out x h
            · exact nB_bytes _ x h
          · exact hdy.out x h
        have ctx' := Lib.hid ctx
        clear ctx hk2 hT0 hWe0 hby0
        generalize l ++ nB dl ++ g.data = W2 at *
        unfold ptrV at ctx'
        gi_wp2_with fail
        clear q2 q8 b50
        refine ⟨trivial, rfl, calls_in (ctx'.out.mono ?_)⟩
        rintro e wT ⟨⟨vv, rfl⟩, HT⟩
        clear ctx'
        have b50 := HT.sl.cell (b := b5) (o := 0) (.here _ _) rfl
        have hT := Lib.hid HT
        clear HT
        have cby := Lib.hid (wbytes_c hT.out (by omega))
        clear hT
        unfold ptrV at cby
        gi_wp2_with fail
        clear b50
        refine ⟨trivial, rfl, calls_in (cby.out.mono ?_)⟩
        rintro e wm ⟨xa, xc, rfl, HM⟩
        clear cby
        have csl := Lib.hid (seal_c HM rfl (by omega) (by obtain ⟨a2, c2, e2, -, -, h, -⟩ := OwnK.slice (show OwnK wm 0 5 1 (.slice xa W2.length xc) W2.length (bv W2) from HM.head); simp only [Value.slice.injEq] at e2; obtain ⟨rfl, -, rfl⟩ := e2; exact h) (OwnK.rdB (show OwnK wm 0 5 1 (.slice xa W2.length xc) W2.length (bv W2) from HM.head)).2.2 hWby.out)
        clear HM
        gi_wp2_with fail
        refine ⟨trivial, rfl, calls_in (csl.out.mono ?_)⟩
        rintro e wn ⟨ya, yc, rfl, HN⟩
        clear csl
        rw [hWe.out] at HN
        have HZ := Lib.hid (HN.re (.step (.there (.there (.there (.there (.here _ _))))) (.step (.here _ _) (.drop (.drop (.drop (.same _)))))))
        clear HN
        gi_wp2_with fail
        refine leaveS (v := .tuple #[.slice ya (sealI (encI g)).length yc, .int .i64 0]) HZ.out ?_ ?_
        · intro V h
          simp [results, Tryd.results9, go_sem, hWe.out]
        · intro V h
          exact hgo.out _ _ ya yc rfl h
      · have hkb : ((KI : Int) == 2) = false := by simp; omega
        have hWe : Hid (sealI l = sealI (encI g)) := Lib.hid (by rw [hWe0.out, if_neg (by rw [hK1.out]; omega), List.append_nil])
        have hT := hT0
        have hWby := hby0
        clear hk2 hT0 hWe0 hby0
        clear q2
        have q2 := hT.out.sl.cell (b := G) (o := 2) (.there (.here _ _)) rfl
        have cby := Lib.hid (wbytes_c hT.out (by omega))
        clear hT
        unfold ptrV at cby
        gi_wp2_with fail
        clear b50
        refine ⟨trivial, rfl, calls_in (cby.out.mono ?_)⟩
        rintro e wm ⟨xa, xc, rfl, HM⟩
        clear cby
        have csl := Lib.hid (seal_c HM rfl (by omega) (by obtain ⟨a2, c2, e2, -, -, h, -⟩ := OwnK.slice (show OwnK wm 0 5 1 (.slice xa l.length xc) l.length (bv l) from HM.head); simp only [Value.slice.injEq] at e2; obtain ⟨rfl, -, rfl⟩ := e2; exact h) (OwnK.rdB (show OwnK wm 0 5 1 (.slice xa l.length xc) l.length (bv l) from HM.head)).2.2 hWby.out)
        clear HM
        gi_wp2_with fail
        refine ⟨trivial, rfl, calls_in (csl.out.mono ?_)⟩
        rintro e wn ⟨ya, yc, rfl, HN⟩
        clear csl
        rw [hWe.out] at HN
        have HZ := Lib.hid (HN.re (.step (.there (.there (.there (.there (.here _ _))))) (.step (.here _ _) (.drop (.drop (.drop (.same _)))))))
        clear HN
        gi_wp2_with fail
        refine leaveS (v := .tuple #[.slice ya (sealI (encI g)).length yc, .int .i64 0]) HZ.out ?_ ?_
        · intro V h
          simp [results, Tryd.results9, go_sem, hWe.out]
        · intro V h
          exact hgo.out _ _ ya yc rfl h
    · exact fun c i V L D h _ => h.elim
  · have hk0 := Lib.hid (hchk.out _ _ hH.out 180 (by rw [if_neg hm]))
    have hE := Lib.hid (hbad.out hm)
    have q0 := hH.out.cell (o := 0) (.here _ _) rfl
    have q1 := hH.out.cell (o := 1) (.here _ _) rfl
    have q2 := hH.out.cell (o := 2) (.here _ _) rfl
    have q3 := hH.out.cell (o := 3) (.here _ _) rfl
    have q4 := hH.out.cell (o := 4) (.here _ _) rfl
    have q5 := hH.out.cell (o := 5) (.here _ _) rfl
    have q6 := hH.out.cell (o := 6) (.here _ _) rfl
    have q7 := hH.out.cell (o := 7) (.here _ _) rfl
    have q8 := hH.out.cell (o := 8) (.here _ _) rfl
    clear hm hbad hgood hHg hdy
    go_enter Tryd.func9, Tryd.ntmps9
    go_wp2_with fail
    refine hk0.out.mono ?_
    rintro e w2 ⟨rfl, H2⟩
    have hH2 := Lib.hid H2.tail
    clear hk0 H2
    go_wp2_with fail
    exact hE.out _ _ rfl hH2.out
end Go.Proofs.YtilpkfgdlehmpaaDoor
