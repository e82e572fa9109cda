/- gram.Decode. -/
import Derived.Test.YtilpkfgdlehmpaaDoorDecLD
import Derived.Test.YtilpkfgdlehmpaaDoorOrderApp
namespace Go.Proofs.YtilpkfgdlehmpaaDoor
open Go.RowKit Go.Shelf
set_option linter.unusedVariables false
attribute [local go_sem] Oper.semAt_some

theorem dnode_c {v : Value} {n : Nat} {xs : List Value} {r b : Nat} {st : RdSt18} {L : List Pc} {w : World} (H : RdrAt v n xs r st (.blk b [ptrV r] 78 :: L) w) :
    Calls Tryd.prog 45 #[ptrV b] w fun e w' => e = .returned (.int .i64 (upK st 63).1) ∧ RdrAt v n xs r (upK st 63).2 (.blk b [ptrV r] 78 :: L) w' := by
  have hs := Lib.hid (small_c H (m := 63) (by omega))
  have c0 := H.sl.cell (b := b) (o := 0) (.here _ _) rfl
  clear H
  unfold ptrV at *
  go_enter Tryd.func45, Tryd.ntmps45
  go_wp2_with fail
  refine hs.out.mono ?_
  rintro e w2 ⟨rfl, H2⟩
  have hH := Lib.hid H2
  clear hs H2
  go_wp2_with fail
  go_ret
  exact ⟨rfl, hH.out⟩

abbrev Z9 : List Value := [.int .i64 0, .int .i64 0, .int .i64 0, .int .u64 0, .int .i64 0, .int .u64 0, .int .u64 0, .int .u64 0, .slice none 0 0]
def DecPost (bs : List Int) (L : List Pc) (e : Ending) (w' : World) : Prop := ∃ a c, e = .returned (.tuple #[gmV (decR bs).1 (.slice a (decR bs).1.data.length c), .int .i64 (decR bs).2]) ∧ SL w' (.own 5 1 (.slice a (decR bs).1.data.length c) (decR bs).1.data.length (bv (decR bs).1.data) :: L)
theorem decPost_zero {bs : List Int} {L : List Pc} {E : Int} (h : decR bs = (Gm0, E)) {w' : World} (H : SL w' L) {e : Ending} (he : e = .returned (.tuple #[.agg Z9.toArray, .int .i64 E])) : DecPost bs L e w' := by
  unfold DecPost
  rw [h]
  exact ⟨none, 0, he, H.pure (OwnK.nil _ _ _ _) (fun b hb => by cases hb)⟩

theorem dec_results {W : World} {Q : Nat} {g : Gm} {a : Option Addr} {m c : Nat} {E : Int} {L : List Pc} (H : SL W (.blk Q (gmC g (.slice a m c)) 25 :: L)) {tmps : Array Value}
    (h2 : tmps.getD 2 undef = .pointer (some ⟨Q, 0, none⟩)) (h3 : tmps.getD 3 undef = .int .i64 E) :
    (results Tryd.f20 tmps).run Tryd.prog W = .ok (.tuple #[gmV g (.slice a m c), .int .i64 E]) W := by
  unfold gmC at H
  (have C := H.cells; dsimp only [cellsOf, Pc.cells, cellsFrom, Nat.zero_add, Nat.reduceAdd] at C; (try simp only [true_and] at C); (try simp only [and_true] at C))
  have h2' : tmps[2]?.getD undef = .pointer (some ⟨Q, 0, none⟩) := by simpa using h2
  have h3' : tmps[3]?.getD undef = .int .i64 E := by simpa using h3
  simp [results, Tryd.results20, go_sem, C, h2', h3', gmV]

set_option maxRecDepth 100000 in
set_option maxHeartbeats 8000000 in
theorem dec_c {a : Option Addr} {n c : Nat} {bs : List Int} {w : World} {L : List Pc} (H : SL w L) (hl : bs.length = n) (hn : n ≤ 6000) (hc : n ≤ c) (hcm : c ≤ 9223372036854775807) (hb : RdB w a bs) (hy : ∀ x ∈ bs, byteK x) :
    Calls Tryd.prog 20 #[.slice a n c] w (DecPost bs L) := by
  have hmx : Tryd.prog.follows .mixedOrders = true := by kernel_rfl
  have H1 := H.alloc Z9 25
  have hop := Lib.hid (opn_c H1 hl hn hc hcm (hb.no ((Kp.refl no w).alloc _)) hy)
  have hyo := openB_bytes bs
  have hlo : (openB bs).length ≤ 6000 := by have := openB_le bs; omega
  have hyo' := Lib.hid hyo
  have hcm' := Lib.hid hcm
  clear H H1 hb hy hyo hcm hl
  refine calls_of_marks Tryd.func20 rfl ?_
  simp only [Tryd.ntmps20, List.size_toArray, List.length_cons, List.length_nil, Nat.reduceAdd, Nat.reduceSub, Array.replicate_succ, Array.replicate_zero, List.push_toArray, List.append_toArray, List.nil_append, List.cons_append]
  gi_wp2_with fail
  generalize w.alloc (.cells Z9.toArray 25) = w1 at *
  generalize w.heap.size = Q at *
  refine ⟨trivial, rfl, calls_in (hop.out.mono ?_)⟩
  rintro e w2 ⟨a2, c2, rfl, H2⟩
  clear hop
  have hH2 := Lib.hid H2
  by_cases hz : openZ bs = 0
  · rw [hz]
    have hK : OwnK w2 0 5 1 (.slice a2 (openB bs).length c2) (openB bs).length (bv (openB bs)) := H2.head
    have hnr := Lib.hid (newr_c H2.tail hK.rdB.2.2 rfl hlo (by obtain ⟨-, -, h⟩ := OwnK.rd hK; exact h) hyo'.out)
    have hz' := Lib.hid hz
    have hok := Lib.hid (readC_ok hyo'.out)
    have hbs := Lib.hid (fun h => decR_bad hz hyo'.out h)
    have hgs := Lib.hid (fun h => decR_good hz hyo'.out h)
    have hby0 : Hid (∀ c ∈ ((openB bs, false) : RdSt18).1, byteK c) := hyo'
    clear H2 hK hz hH2
    generalize openB bs = ob at *
    clear hlo
    unfold readC at hok hbs hgs
    dsimp only at hok hbs hgs
    obtain ⟨K0, hK0⟩ : ∃ K0, upK (ob, false) 3 = K0 := ⟨_, rfl⟩
    have hk3 := upK_le (st := (ob, false)) (m := 3) (by omega) hby0.out
    rw [hK0] at hok hbs hgs hk3
    have hK0' := Lib.hid hK0
    clear hK0
    gi_wp2_with fail
    refine ⟨trivial, rfl, calls_in (hnr.out.mono ?_)⟩
    rintro e w3 ⟨r, v, m, xs, rfl, H3⟩
    clear hnr
    have H4 := Lib.hid (H3.alloc [ptrV r] 78)
    clear H3
    unfold ptrV at *
    gi_wp2_with fail
    generalize w3.alloc (.cells [Value.pointer (some ⟨r, 0, none⟩)].toArray 78) = w4 at *
    generalize w3.heap.size = b6 at *
    have q6 := H4.out.sl.cell (b := b6) (o := 0) (.here _ _) rfl
    have cK := Lib.hid (small_c H4.out (m := 3) (by omega))
    rw [hK0'.out] at cK
    clear H4
    gi_wp2_with fail
    refine ⟨trivial, rfl, calls_in (cK.out.mono ?_)⟩
    rintro e w5 ⟨rfl, H5⟩
    clear cK q6
    gi_wp2_with fail
    have H6 := Lib.hid ((H5.alloc [.int .i64 0, .int .i64 0, .int .i64 K0.1, .int .u64 0, .int .i64 0, .int .u64 0, .int .u64 0, .int .u64 0, .slice none 0 0] 25).re (.step (.there (.here _ _)) (.same _)))
    clear H5
    obtain ⟨F1, hF1⟩ : ∃ F1, upK K0.2 63 = F1 := ⟨_, rfl⟩
    rw [hF1] at hok hbs hgs
    have hF1' := Lib.hid hF1
    clear hF1
    obtain ⟨T1, hT1⟩ : ∃ T1, upK F1.2 63 = T1 := ⟨_, rfl⟩
    rw [hT1] at hok hbs hgs
    have hT1' := Lib.hid hT1
    clear hT1
    obtain ⟨N1, hN1⟩ : ∃ N1, upK T1.2 most64 = N1 := ⟨_, rfl⟩
    rw [hN1] at hok hbs hgs
    have hN1' := Lib.hid hN1
    clear hN1
    obtain ⟨B1, hB1⟩ : ∃ B1, upK N1.2 63 = B1 := ⟨_, rfl⟩
    rw [hB1] at hok hbs hgs
    have hB1' := Lib.hid hB1
    clear hB1
    generalize w5.alloc (.cells [Value.int .i64 0, .int .i64 0, .int .i64 K0.1, .int .u64 0, .int .i64 0, .int .u64 0, .int .u64 0, .int .u64 0, .slice none 0 0].toArray 25) = w6 at *
    generalize w5.heap.size = G at *
    have cF := Lib.hid (dnode_c H6.out)
    rw [hF1'.out] at cF
    clear H6
    unfold ptrV at cF
    refine ⟨trivial, rfl, calls_in (cF.out.mono ?_)⟩
    rintro e w7 ⟨rfl, H7⟩
    clear cF
    have cT := Lib.hid (dnode_c H7)
    rw [hT1'.out] at cT
    clear H7
    unfold ptrV at cT
    gi_wp2_with fail
    refine ⟨trivial, rfl, calls_in (cT.out.mono ?_)⟩
    rintro e w8 ⟨rfl, H8⟩
    clear cT
    have H9 := Lib.hid ((H8.re (.step (.there (.here _ _)) (.same _))).set (o := 0) (u := .int .i64 F1.1) |>.set (o := 1) (u := .int .i64 T1.1))
    have g0 := H8.sl.cell (b := G) (o := 0) (.there (.here _ _)) rfl
    have g1 := H8.sl.cell (b := G) (o := 1) (.there (.here _ _)) rfl
    have f0 := H8.sl.free (b := G) (.there (.here _ _)) 0
    have f1 := H8.sl.free (b := G) (.there (.here _ _)) 1
    have q6 := H8.sl.cell (b := b6) (o := 0) (.here _ _) rfl
    have hne := (H8.sl.ne (b := b6) (b' := G) (.here _ _) (.here _ _)).1
    clear H8
    gi_wp2_with fail
    generalize (w8.setCell ⟨G, 0, none⟩ (.int .i64 F1.1)).setCell ⟨G, 1, none⟩ (.int .i64 T1.1) = w9 at *
    clear g0 g1 f0 f1 q6 hne
    have cN := Lib.hid (uint_c H9.out)
    rw [hN1'.out] at cN
    clear H9
    unfold ptrV at cN
    refine ⟨trivial, rfl, calls_in (cN.out.mono ?_)⟩
    rintro e w10 ⟨rfl, H10⟩
    clear cN
    have HA := Lib.hid ((H10.set (o := 3) (u := .int .u64 N1.1)).re (.step (.there (.here _ _)) (.same _)))
    have g3 := H10.sl.cell (b := G) (o := 3) (.here _ _) rfl
    have f3 := H10.sl.free (b := G) (.here _ _) 3
    clear H10
    gi_wp2_with fail
    generalize w10.setCell ⟨G, 3, none⟩ (.int .u64 N1.1) = w11 at *
    clear g3 f3
    have cB := Lib.hid (dnode_c HA.out)
    rw [hB1'.out] at cB
    clear HA
    unfold ptrV at cB
    refine ⟨trivial, rfl, calls_in (cB.out.mono ?_)⟩
    rintro e w12 ⟨rfl, H12⟩
    clear cB
    have HC := Lib.hid ((H12.re (.step (.there (.here _ _)) (.same _))).set (o := 4) (u := .int .i64 B1.1))
    have g4 := H12.sl.cell (b := G) (o := 4) (.there (.here _ _)) rfl
    have f4 := H12.sl.free (b := G) (.there (.here _ _)) 4
    clear H12
    gi_wp2_with fail
    generalize w12.setCell ⟨G, 4, none⟩ (.int .i64 B1.1) = w13 at *
    clear g4 f4
    obtain ⟨ra, rc, HD, hrok⟩ := HC.out
    have cf := Lib.hid (fields_c G K0.1 HD (HD.cell (b := G) (o := 2) (.there (.there (.here _ _))) rfl))
    have hrok' := Lib.hid hrok
    clear HC HD hrok
    unfold ptrV at cf
    refine ⟨trivial, rfl, calls_in (cf.out.mono ?_)⟩
    rintro e w14 ⟨A, B, rfl, H14⟩
    clear cf
    have HE := Lib.hid (SL.comm (A := [_, _]) H14)
    clear H14
    gi_wp2_with fail
    clear hyo' hby0
    refine wp_rangeS rfl egF (fields_gives A B G K0.1) (by intro x hx; obtain ⟨k, _, rfl⟩ := List.mem_map.1 hx; rfl)
      (fun i L' => ∃ ra rc, RdOk v m xs ra rc (rdF ((fldN K0.1).take i) B1.2 (gmC ⟨K0.1, F1.1, T1.1, N1.1, B1.1, 0, 0, 0, []⟩ (.slice none 0 0))).2 ∧ L' = rdrB r ra rc (rdF ((fldN K0.1).take i) B1.2 (gmC ⟨K0.1, F1.1, T1.1, N1.1, B1.1, 0, 0, 0, []⟩ (.slice none 0 0))).2 :: .own 5 1 v m xs :: .blk G (rdF ((fldN K0.1).take i) B1.2 (gmC ⟨K0.1, F1.1, T1.1, N1.1, B1.1, 0, 0, 0, []⟩ (.slice none 0 0))).1 25 :: .blk b6 [.pointer (some ⟨r, 0, none⟩)] 78 :: .blk Q Z9 25 :: L)
      (fun _ _ _ => False)
      (L0 := rdrB r ra rc B1.2 :: .own 5 1 v m xs :: .blk G (gmC ⟨K0.1, F1.1, T1.1, N1.1, B1.1, 0, 0, 0, []⟩ (.slice none 0 0)) 25 :: .blk b6 [.pointer (some ⟨r, 0, none⟩)] 78 :: .blk Q Z9 25 :: L) ⟨ra, rc, hrok'.out, rfl⟩ HE.out ?_ ?_ ?_
    · rintro i hi V ll _ T ⟨pa, pc, hpk, rfl⟩ H
      have hil : i < (fldN K0.1).length := by rw [fldY_length] at hi; exact hi
      have hx : (fldY G (fldN K0.1))[i]'hi = #[.agg #[.pointer (some ⟨G, ((fldN K0.1)[i]'hil).1, none⟩), .int .u64 ((fldN K0.1)[i]'hil).2]] := by simp [fldY]
      rw [hx]
      have hq8 := fldN_mem hil
      have hsn := rdF_snoc (fldN K0.1) B1.2 (gmC ⟨K0.1, F1.1, T1.1, N1.1, B1.1, 0, 0, 0, []⟩ (.slice none 0 0)) i hil
      have hln := rdF_length ((fldN K0.1).take i) B1.2 (gmC ⟨K0.1, F1.1, T1.1, N1.1, B1.1, 0, 0, 0, []⟩ (.slice none 0 0))
      have hgl : (gmC ⟨K0.1, F1.1, T1.1, N1.1, B1.1, 0, 0, 0, []⟩ (.slice none 0 0)).length = 9 := rfl
      rw [hgl] at hln
      clear hgl hx
      generalize ((fldN K0.1)[i]'hil).1 = q at *
      generalize ((fldN K0.1)[i]'hil).2 = M at *
      generalize rdF ((fldN K0.1).take i) B1.2 (gmC ⟨K0.1, F1.1, T1.1, N1.1, B1.1, 0, 0, 0, []⟩ (.slice none 0 0)) = R at *
      obtain ⟨cs, st⟩ := R
      dsimp only at hpk H hln hsn
      have hsn' := Lib.hid hsn
      have hcl : Hid (∃ u, cs[q]? = some u) := Lib.hid ⟨_, List.getElem?_eq_getElem (by omega)⟩
      have hH0 := Lib.hid H
      have hpk' := Lib.hid hpk
      clear hok hbs hgs HE hrok' H hln hsn hpk
      gi_wp2_with fail
      have H1 := hH0.out.alloc [.pointer (some ⟨G, q, none⟩), .int .u64 M] 60
      generalize V.heap.size = S at *
      refine ⟨.blk S [.pointer (some ⟨G, q, none⟩), .int .u64 M] 60 :: rdrB r pa pc st :: .own 5 1 v m xs :: .blk G cs 25 :: .blk b6 [.pointer (some ⟨r, 0, none⟩)] 78 :: .blk Q Z9 25 :: L, H1, ?_⟩
      clear H1 hH0
      intro V2 T2 H
      have hH : Hid (RdrAt v m xs r st (.blk S [.pointer (some ⟨G, q, none⟩), .int .u64 M] 60 :: .blk G cs 25 :: .blk b6 [.pointer (some ⟨r, 0, none⟩)] 78 :: .blk Q Z9 25 :: (L ++ ([.blk B [fldS A K0.1] 92, fldP A G] ++ T2))) V2) := Lib.hid ⟨pa, pc, (show SL V2 (.blk S [.pointer (some ⟨G, q, none⟩), .int .u64 M] 60 :: rdrB r pa pc st :: .own 5 1 v m xs :: (.blk G cs 25 :: .blk b6 [.pointer (some ⟨r, 0, none⟩)] 78 :: .blk Q Z9 25 :: (L ++ ([.blk B [fldS A K0.1] 92, fldP A G] ++ T2)))) from H).re (.step (.there (.here _ _)) (.step (.there (.here _ _)) (.same _))), hpk'.out⟩
      clear H
      obtain ⟨ZZ, hZZ⟩ : ∃ ZZ, L ++ ([.blk B [fldS A K0.1] 92, fldP A G] ++ T2) = ZZ := ⟨_, rfl⟩
      rw [hZZ] at hH
      have hZZ' := Lib.hid hZZ
      clear hZZ
      gi_wp2_with fail
      refine region_round (S := (fun W => W.cell? ⟨S, 0, none⟩ = some (.pointer (some ⟨G, q, none⟩)) ∧ W.cell? ⟨b6, 0, none⟩ = some (.pointer (some ⟨r, 0, none⟩)))) (fun _ w => RdrAt v m xs r (upK st most64).2 (.blk S [.pointer (some ⟨G, q, none⟩), .int .u64 M] 60 :: .blk G (cs.set q (.int .u64 (upK st most64).1)) 25 :: .blk b6 [.pointer (some ⟨r, 0, none⟩)] 78 :: .blk Q Z9 25 :: ZZ) w) (by kernel_rfl) (by kernel_rfl) ?_ (fun hHeld => ?_) ?_
      · exact ⟨hH.out.drew.sl.cell (b := S) (o := 0) (.here _ _) rfl, hH.out.drew.sl.cell (b := b6) (o := 0) (.there (.there (.here _ _))) rfl⟩
      have H := hH.out.drew
      generalize World.drew V2 = w5 at *
      clear hH
      refine takeL (i := 0) rfl (by kernel_rfl) (by kernel_rfl) (by kernel_rfl) (fun _ _ _ _ h => h) hHeld ?_ (Or.inl ⟨by rfl, ?_⟩) ?_
      rotate_left
      · intro W hW
        (try dsimp only at hW)
        first | (go_simp; done) | (go_simp; with_reducible rfl)
      ((try simp only [Act.put]); (try simp only [List.setIfInBounds_toArray]); (try simp only [List.set_cons_succ]); (try simp only [List.set_cons_zero]))
      refine takeL (i := 1) rfl (by kernel_rfl) (by kernel_rfl) (by kernel_rfl) (fun _ _ _ _ h => h) hHeld ?_ (Or.inl ⟨by rfl, ?_⟩) ?_
      rotate_left
      · intro W hW
        (try dsimp only at hW)
        first | (go_simp; done) | (go_simp; with_reducible rfl)
      ((try simp only [Act.put]); (try simp only [List.setIfInBounds_toArray]); (try simp only [List.set_cons_succ]); (try simp only [List.set_cons_zero]))
      refine takeL (i := 2) rfl (by kernel_rfl) (by kernel_rfl) (by kernel_rfl) (fun _ _ _ _ h => h) hHeld ?_ (Or.inl ⟨by rfl, ?_⟩) ?_
      rotate_left
      · intro W hW
        (try dsimp only at hW)
        first | (go_simp; done) | (go_simp; with_reducible rfl)
      ((try simp only [Act.put]); (try simp only [List.setIfInBounds_toArray]); (try simp only [List.set_cons_succ]); (try simp only [List.set_cons_zero]))
      refine callL (i := 3) rfl (by kernel_rfl) (fun K hK => ?_)
      rw [if_pos (by rfl)]
      go_simp
      refine (uint_c H).mono ?_
      rintro e w7 ⟨rfl, H7⟩
      clear H hHeld
      have H := H7
      clear H7
      refine hK.out _ _ ?_ (fun hHeld => ?_)
      · exact ⟨H.sl.cell (b := S) (o := 0) (.here _ _) rfl, H.sl.cell (b := b6) (o := 0) (.there (.there (.here _ _))) rfl⟩
      clear hK K
      ((try simp only [Act.put]); (try simp only [List.setIfInBounds_toArray]); (try simp only [List.set_cons_succ]); (try simp only [List.set_cons_zero]))
      refine takeL (i := 4) rfl (by kernel_rfl) (by kernel_rfl) (by kernel_rfl) (fun _ _ _ _ h => h) hHeld ?_ (Or.inl ⟨by rfl, ?_⟩) ?_
      rotate_left
      · intro W hW
        (try dsimp only at hW)
        first | (go_simp; done) | (go_simp; with_reducible rfl)
      ((try simp only [Act.put]); (try simp only [List.setIfInBounds_toArray]); (try simp only [List.set_cons_succ]); (try simp only [List.set_cons_zero]))
      refine callL (i := 5) rfl (by kernel_rfl) (fun K hK => ?_)
      rw [if_pos (by rfl)]
      obtain ⟨u, hu⟩ := hcl.out
      have g0 := H.sl.cell (b := G) (o := q) (.there (.here _ _)) hu
      have gf := H.sl.free (b := G) (.there (.here _ _)) q
      go_simp
      have H' := ((H.re (.step (.there (.here _ _)) (.same _))).set (o := q) (u := .int .u64 (upK st most64).1)).re (.step (.there (.here _ _)) (.same _))
      clear H hHeld g0 gf hu
      have H := H'
      clear H'
      refine hK.out _ _ ?_ (fun hHeld => ?_)
      · exact ⟨H.sl.cell (b := S) (o := 0) (.here _ _) rfl, H.sl.cell (b := b6) (o := 0) (.there (.there (.here _ _))) rfl⟩
      clear hK K
      ((try simp only [Act.put]); (try simp only [List.setIfInBounds_toArray]); (try simp only [List.set_cons_succ]); (try simp only [List.set_cons_zero]))
      refine wpAnyH_done (by kernel_rfl) ?_ _
      exact H
      rintro act w8 ⟨pa2, pc2, H8, hp2⟩
      refine ⟨_, ⟨pa2, pc2, ?_, rfl⟩, ?_⟩
      · rw [hsn'.out]
        exact hp2
      · rw [hsn'.out]
        rw [← hZZ'.out] at H8
        exact H8.re (.step (.here _ _) (.step (.here _ _) (.drop (.same _))))
    · rintro V _ D ⟨pa, pc, hpk, rfl⟩ H
      rw [fldY_length, List.take_length] at H hpk
      have hrg := rdF_gm K0.1 F1.1 T1.1 N1.1 B1.1 [] (.slice none 0 0) B1.2
      rw [hrg] at H hpk
      obtain ⟨R, hR⟩ : ∃ R, rdG K0.1 B1.2 = R := ⟨_, rfl⟩
      rw [hR] at H hpk hok hbs hgs
      have HX : SL V ([rdrB r pa pc R.2, .own 5 1 v m xs, .blk G (gmC ⟨K0.1, F1.1, T1.1, N1.1, B1.1, R.1.1, R.1.2.1, R.1.2.2, []⟩ (.slice none 0 0)) 25, .blk b6 [.pointer (some ⟨r, 0, none⟩)] 78, .blk Q Z9 25, .obj D (.deferred (some []))] ++ L) :=
        SL.dropEnd (E := [.blk B [fldS A K0.1] 92, fldP A G]) (H.re (.step (.there (.here _ _)) (.step (.there (.here _ _)) (.step (.there (.here _ _)) (.step (.there (.here _ _)) (.step (.there (.here _ _)) (.same _)))))))
      have hT0 : Hid (RdrAt v m xs r R.2 (.blk G [.int .i64 F1.1, .int .i64 T1.1, .int .i64 K0.1, .int .u64 N1.1, .int .i64 B1.1, .int .u64 R.1.1, .int .u64 R.1.2.1, .int .u64 R.1.2.2, .slice none 0 0] 25 :: .blk b6 [.pointer (some ⟨r, 0, none⟩)] 78 :: .blk Q Z9 25 :: .obj D (.deferred (some [])) :: L) V) := Lib.hid ⟨pa, pc, HX, hpk⟩
      clear H HX hpk hrg hR HE hrok'
      obtain ⟨D1, hD1⟩ : ∃ D1, (if K0.1 = 2 then textK R.2 900 else ([], R.2)) = D1 := ⟨_, rfl⟩
      rw [hD1] at hok hbs hgs
      have g2 := hT0.out.sl.cell (b := G) (o := 2) (.here _ _) rfl
      have b60 := hT0.out.sl.cell (b := b6) (o := 0) (.there (.here _ _)) rfl
      by_cases hk2 : K0.1 = 2
      · rw [if_pos hk2] at hD1
        have htx := Lib.hid (text_c hT0.out (m := 900) (by omega))
        rw [hD1] at htx
        have hkb : (K0.1 == 2) = true := by simpa using hk2
        clear hD1 hk2 hT0
        unfold ptrV at htx
        gi_wp2_with fail
        refine ⟨trivial, rfl, calls_in (htx.out.mono ?_)⟩
        rintro e w15 ⟨ta, tc, rfl, H15⟩
        clear htx g2 b60
        have g8 := H15.sl.cell (b := G) (o := 8) (.there (.here _ _)) rfl
        have f8 := H15.sl.free (b := G) (.there (.here _ _)) 8
        have b60 := H15.sl.cell (b := b6) (o := 0) (.there (.there (.here _ _))) rfl
        have hT := Lib.hid (((H15.re (.step (.there (.here _ _)) (.same _))).set (o := 8) (u := .slice ta D1.1.length tc)).re (.step (.there (.here _ _)) (.same _)))
        have b61 := hT.out.sl.cell (b := b6) (o := 0) (.there (.there (.here _ _))) rfl
        clear H15
        gi_wp2_with fail
        generalize w15.setCell ⟨G, 8, none⟩ (.slice ta D1.1.length tc) = wT at *
        have hno := Lib.hid (end_c hT.out)
        have HT := hT.out.sl
        have HT' := Lib.hid HT
        have q0 := HT.cell (b := G) (o := 0) (.there (.here _ _)) rfl
        have q1 := HT.cell (b := G) (o := 1) (.there (.here _ _)) rfl
        have q2 := HT.cell (b := G) (o := 2) (.there (.here _ _)) rfl
        have q3 := HT.cell (b := G) (o := 3) (.there (.here _ _)) rfl
        have q4 := HT.cell (b := G) (o := 4) (.there (.here _ _)) rfl
        have q5 := HT.cell (b := G) (o := 5) (.there (.here _ _)) rfl
        have q6 := HT.cell (b := G) (o := 6) (.there (.here _ _)) rfl
        have q7 := HT.cell (b := G) (o := 7) (.there (.here _ _)) rfl
        have q8 := HT.cell (b := G) (o := 8) (.there (.here _ _)) rfl
        clear HT hT
        by_cases he : endK D1.2
        · rw [if_pos he] at hno
          by_cases hm : mayK ⟨K0.1, F1.1, T1.1, N1.1, B1.1, R.1.1, R.1.2.1, R.1.2.2, D1.1⟩
          · have hE := Lib.hid (hgs.out ⟨he, hm⟩)
            have hch := Lib.hid (chk_c ⟨K0.1, F1.1, T1.1, N1.1, B1.1, R.1.1, R.1.2.1, R.1.2.2, D1.1⟩ hok.out ta tc HT'.out 0 (by rw [if_pos hm]))
            unfold gmV at hch
            dsimp only at hch
            clear he hm hbs hgs HT'
            gi_wp2_with fail
            refine ⟨trivial, rfl, calls_in (hno.out.mono ?_)⟩
            rintro e wa ⟨rfl, rfl⟩
            clear hno
            gi_wp2_with fail
            refine ⟨trivial, rfl, calls_in (hch.out.mono ?_)⟩
            rintro e wb ⟨rfl, HB⟩
            clear hch q0 q1 q2 q3 q4 q5 q6 q7 q8
            have HZ := Lib.hid (HB.re (.step (.there (.there (.there (.here _ _)))) (.step (.there (.there (.there (.here _ _)))) (.same _))))
            clear HB
            have q0 := HZ.out.cell (b := G) (o := 0) (.there (.there (.there (.here _ _)))) rfl
            have q1 := HZ.out.cell (b := G) (o := 1) (.there (.there (.there (.here _ _)))) rfl
            have q2 := HZ.out.cell (b := G) (o := 2) (.there (.there (.there (.here _ _)))) rfl
            have q3 := HZ.out.cell (b := G) (o := 3) (.there (.there (.there (.here _ _)))) rfl
            have q4 := HZ.out.cell (b := G) (o := 4) (.there (.there (.there (.here _ _)))) rfl
            have q5 := HZ.out.cell (b := G) (o := 5) (.there (.there (.there (.here _ _)))) rfl
            have q6 := HZ.out.cell (b := G) (o := 6) (.there (.there (.there (.here _ _)))) rfl
            have q7 := HZ.out.cell (b := G) (o := 7) (.there (.there (.there (.here _ _)))) rfl
            have q8 := HZ.out.cell (b := G) (o := 8) (.there (.there (.there (.here _ _)))) rfl
            have z0 := HZ.out.cell (b := Q) (o := 0) (.here _ _) rfl
            have z1 := HZ.out.cell (b := Q) (o := 1) (.here _ _) rfl
            have z2 := HZ.out.cell (b := Q) (o := 2) (.here _ _) rfl
            have z3 := HZ.out.cell (b := Q) (o := 3) (.here _ _) rfl
            have z4 := HZ.out.cell (b := Q) (o := 4) (.here _ _) rfl
            have z5 := HZ.out.cell (b := Q) (o := 5) (.here _ _) rfl
            have z6 := HZ.out.cell (b := Q) (o := 6) (.here _ _) rfl
            have z7 := HZ.out.cell (b := Q) (o := 7) (.here _ _) rfl
            have z8 := HZ.out.cell (b := Q) (o := 8) (.here _ _) rfl
            have y0 := HZ.out.free (b := Q) (.here _ _) 0
            have y1 := HZ.out.free (b := Q) (.here _ _) 1
            have y2 := HZ.out.free (b := Q) (.here _ _) 2
            have y3 := HZ.out.free (b := Q) (.here _ _) 3
            have y4 := HZ.out.free (b := Q) (.here _ _) 4
            have y5 := HZ.out.free (b := Q) (.here _ _) 5
            have y6 := HZ.out.free (b := Q) (.here _ _) 6
            have y7 := HZ.out.free (b := Q) (.here _ _) 7
            have y8 := HZ.out.free (b := Q) (.here _ _) 8
            have fin := Lib.hid ((HZ.out.set9 (.int .i64 F1.1) (.int .i64 T1.1) (.int .i64 K0.1) (.int .u64 N1.1) (.int .i64 B1.1) (.int .u64 R.1.1) (.int .u64 R.1.2.1) (.int .u64 R.1.2.2) (.slice ta D1.1.length tc)).re (.step (.there (.here _ _)) (.step (.here _ _) (.step (.here _ _) (.drop (.drop (.same _)))))))
            clear HZ
            gi_wp2_with fail
            refine leaveS (v := .tuple #[gmV ⟨K0.1, F1.1, T1.1, N1.1, B1.1, R.1.1, R.1.2.1, R.1.2.2, D1.1⟩ (.slice ta D1.1.length tc), .int .i64 0]) fin.out ?_ ?_
            · intro V h
              exact dec_results (g := ⟨K0.1, F1.1, T1.1, N1.1, B1.1, R.1.1, R.1.2.1, R.1.2.2, D1.1⟩) h rfl rfl
            · intro V h
              unfold DecPost
              rw [hE.out]
              exact ⟨ta, tc, rfl, h.tail⟩
          · have hE := Lib.hid (hbs.out (fun h => hm h.2))
            have hch := Lib.hid (chk_c ⟨K0.1, F1.1, T1.1, N1.1, B1.1, R.1.1, R.1.2.1, R.1.2.2, D1.1⟩ hok.out ta tc HT'.out 180 (by rw [if_neg hm]))
            unfold gmV at hch
            dsimp only at hch
            clear he hm hbs hgs HT'
            gi_wp2_with fail
            refine ⟨trivial, rfl, calls_in (hno.out.mono ?_)⟩
            rintro e wa ⟨rfl, rfl⟩
            clear hno
            gi_wp2_with fail
            refine ⟨trivial, rfl, calls_in (hch.out.mono ?_)⟩
            rintro e wb ⟨rfl, HB⟩
            clear hch q0 q1 q2 q3 q4 q5 q6 q7 q8
            have HZ := Lib.hid (HB.re (.drop (.drop (.drop (.same _)))))
            have z0 := HZ.out.cell (b := Q) (o := 0) (.here _ _) rfl
            have z1 := HZ.out.cell (b := Q) (o := 1) (.here _ _) rfl
            have z2 := HZ.out.cell (b := Q) (o := 2) (.here _ _) rfl
            have z3 := HZ.out.cell (b := Q) (o := 3) (.here _ _) rfl
            have z4 := HZ.out.cell (b := Q) (o := 4) (.here _ _) rfl
            have z5 := HZ.out.cell (b := Q) (o := 5) (.here _ _) rfl
            have z6 := HZ.out.cell (b := Q) (o := 6) (.here _ _) rfl
            have z7 := HZ.out.cell (b := Q) (o := 7) (.here _ _) rfl
            have z8 := HZ.out.cell (b := Q) (o := 8) (.here _ _) rfl
            have y0 := HZ.out.free (b := Q) (.here _ _) 0
            have y1 := HZ.out.free (b := Q) (.here _ _) 1
            have y2 := HZ.out.free (b := Q) (.here _ _) 2
            have y3 := HZ.out.free (b := Q) (.here _ _) 3
            have y4 := HZ.out.free (b := Q) (.here _ _) 4
            have y5 := HZ.out.free (b := Q) (.here _ _) 5
            have y6 := HZ.out.free (b := Q) (.here _ _) 6
            have y7 := HZ.out.free (b := Q) (.here _ _) 7
            have y8 := HZ.out.free (b := Q) (.here _ _) 8
            have fin := Lib.hid ((HZ.out.set9 (.int .i64 0) (.int .i64 0) (.int .i64 0) (.int .u64 0) (.int .i64 0) (.int .u64 0) (.int .u64 0) (.int .u64 0) (.slice none 0 0)).re (.step (.there (.here _ _)) (.same _)))
            clear HZ
            gi_wp2_with fail
            refine leaveS (v := .tuple #[.agg Z9.toArray, .int .i64 180]) fin.out ?_ ?_
            · intro V h
              exact dec_results (g := Gm0) h rfl rfl
            · intro V h
              exact decPost_zero hE.out h.tail rfl
        · rw [if_neg he] at hno
          have hE := Lib.hid (hbs.out (fun h => he h.1))
          clear he hbs hgs q0 q1 q2 q3 q4 q5 q6 q7 q8
          gi_wp2_with fail
          refine ⟨trivial, rfl, calls_in (hno.out.mono ?_)⟩
          rintro e wa ⟨rfl, rfl⟩
          clear hno
          have HZ := Lib.hid (HT'.out.re (.drop (.drop (.drop (.same _)))))
          have z0 := HZ.out.cell (b := Q) (o := 0) (.here _ _) rfl
          have z1 := HZ.out.cell (b := Q) (o := 1) (.here _ _) rfl
          have z2 := HZ.out.cell (b := Q) (o := 2) (.here _ _) rfl
          have z3 := HZ.out.cell (b := Q) (o := 3) (.here _ _) rfl
          have z4 := HZ.out.cell (b := Q) (o := 4) (.here _ _) rfl
          have z5 := HZ.out.cell (b := Q) (o := 5) (.here _ _) rfl
          have z6 := HZ.out.cell (b := Q) (o := 6) (.here _ _) rfl
          have z7 := HZ.out.cell (b := Q) (o := 7) (.here _ _) rfl
          have z8 := HZ.out.cell (b := Q) (o := 8) (.here _ _) rfl
          have y0 := HZ.out.free (b := Q) (.here _ _) 0
          have y1 := HZ.out.free (b := Q) (.here _ _) 1
          have y2 := HZ.out.free (b := Q) (.here _ _) 2
          have y3 := HZ.out.free (b := Q) (.here _ _) 3
          have y4 := HZ.out.free (b := Q) (.here _ _) 4
          have y5 := HZ.out.free (b := Q) (.here _ _) 5
          have y6 := HZ.out.free (b := Q) (.here _ _) 6
          have y7 := HZ.out.free (b := Q) (.here _ _) 7
          have y8 := HZ.out.free (b := Q) (.here _ _) 8
          have fin := Lib.hid ((HZ.out.set9 (.int .i64 0) (.int .i64 0) (.int .i64 0) (.int .u64 0) (.int .i64 0) (.int .u64 0) (.int .u64 0) (.int .u64 0) (.slice none 0 0)).re (.step (.there (.here _ _)) (.same _)))
          clear HZ
          gi_wp2_with fail
          refine ⟨trivial, ?_⟩
          gi_wp2_with fail
          refine leaveS (v := .tuple #[.agg Z9.toArray, .int .i64 180]) fin.out ?_ ?_
          · intro V h
            exact dec_results (g := Gm0) h rfl rfl
          · intro V h
            exact decPost_zero hE.out h.tail rfl
      · rw [if_neg hk2] at hD1
        have hkb : (K0.1 == 2) = false := by simpa using hk2
        obtain ⟨ta, tc, hta, htc, hD2, hlD⟩ : ∃ ta tc, ta = (none : Option Addr) ∧ tc = 0 ∧ R.2 = D1.2 ∧ D1.1 = [] := ⟨none, 0, rfl, rfl, by rw [← hD1], by rw [← hD1]⟩
        have hT : Hid (RdrAt v m xs r D1.2 (.own 5 1 (.slice ta D1.1.length tc) D1.1.length (bv D1.1) :: .blk G [.int .i64 F1.1, .int .i64 T1.1, .int .i64 K0.1, .int .u64 N1.1, .int .i64 B1.1, .int .u64 R.1.1, .int .u64 R.1.2.1, .int .u64 R.1.2.2, .slice ta D1.1.length tc] 25 :: .blk b6 [.pointer (some ⟨r, 0, none⟩)] 78 :: .blk Q Z9 25 :: .obj D (.deferred (some [])) :: L) V) := Lib.hid (by
          have h := hT0.out
          rw [hD2] at h
          rw [hlD, hta, htc]
          obtain ⟨x, y, h1, h2⟩ := h
          exact ⟨x, y, (h1.pure (q := .own 5 1 (.slice none 0 0) 0 []) (OwnK.nil _ _ _ _) (fun b h => by cases h)).re (.step (.there (.here _ _)) (.step (.there (.here _ _)) (.same _))), h2⟩)
        clear hD1 hk2 hT0 hta htc hD2 hlD
        generalize V = wT at *
        have hno := Lib.hid (end_c hT.out)
        have HT := hT.out.sl
        have HT' := Lib.hid HT
        have q0 := HT.cell (b := G) (o := 0) (.there (.here _ _)) rfl
        have q1 := HT.cell (b := G) (o := 1) (.there (.here _ _)) rfl
        have q2 := HT.cell (b := G) (o := 2) (.there (.here _ _)) rfl
        have q3 := HT.cell (b := G) (o := 3) (.there (.here _ _)) rfl
        have q4 := HT.cell (b := G) (o := 4) (.there (.here _ _)) rfl
        have q5 := HT.cell (b := G) (o := 5) (.there (.here _ _)) rfl
        have q6 := HT.cell (b := G) (o := 6) (.there (.here _ _)) rfl
        have q7 := HT.cell (b := G) (o := 7) (.there (.here _ _)) rfl
        have q8 := HT.cell (b := G) (o := 8) (.there (.here _ _)) rfl
        clear HT hT
        by_cases he : endK D1.2
        · rw [if_pos he] at hno
          by_cases hm : mayK ⟨K0.1, F1.1, T1.1, N1.1, B1.1, R.1.1, R.1.2.1, R.1.2.2, D1.1⟩
          · have hE := Lib.hid (hgs.out ⟨he, hm⟩)
            have hch := Lib.hid (chk_c ⟨K0.1, F1.1, T1.1, N1.1, B1.1, R.1.1, R.1.2.1, R.1.2.2, D1.1⟩ hok.out ta tc HT'.out 0 (by rw [if_pos hm]))
            unfold gmV at hch
            dsimp only at hch
            clear he hm hbs hgs HT'
            gi_wp2_with fail
            refine ⟨trivial, rfl, calls_in (hno.out.mono ?_)⟩
            rintro e wa ⟨rfl, rfl⟩
            clear hno
            gi_wp2_with fail
            refine ⟨trivial, rfl, calls_in (hch.out.mono ?_)⟩
            rintro e wb ⟨rfl, HB⟩
            clear hch q0 q1 q2 q3 q4 q5 q6 q7 q8
            have HZ := Lib.hid (HB.re (.step (.there (.there (.there (.here _ _)))) (.step (.there (.there (.there (.here _ _)))) (.same _))))
            clear HB
            have q0 := HZ.out.cell (b := G) (o := 0) (.there (.there (.there (.here _ _)))) rfl
            have q1 := HZ.out.cell (b := G) (o := 1) (.there (.there (.there (.here _ _)))) rfl
            have q2 := HZ.out.cell (b := G) (o := 2) (.there (.there (.there (.here _ _)))) rfl
            have q3 := HZ.out.cell (b := G) (o := 3) (.there (.there (.there (.here _ _)))) rfl
            have q4 := HZ.out.cell (b := G) (o := 4) (.there (.there (.there (.here _ _)))) rfl
            have q5 := HZ.out.cell (b := G) (o := 5) (.there (.there (.there (.here _ _)))) rfl
            have q6 := HZ.out.cell (b := G) (o := 6) (.there (.there (.there (.here _ _)))) rfl
            have q7 := HZ.out.cell (b := G) (o := 7) (.there (.there (.there (.here _ _)))) rfl
            have q8 := HZ.out.cell (b := G) (o := 8) (.there (.there (.there (.here _ _)))) rfl
            have z0 := HZ.out.cell (b := Q) (o := 0) (.here _ _) rfl
            have z1 := HZ.out.cell (b := Q) (o := 1) (.here _ _) rfl
            have z2 := HZ.out.cell (b := Q) (o := 2) (.here _ _) rfl
            have z3 := HZ.out.cell (b := Q) (o := 3) (.here _ _) rfl
            have z4 := HZ.out.cell (b := Q) (o := 4) (.here _ _) rfl
            have z5 := HZ.out.cell (b := Q) (o := 5) (.here _ _) rfl
            have z6 := HZ.out.cell (b := Q) (o := 6) (.here _ _) rfl
            have z7 := HZ.out.cell (b := Q) (o := 7) (.here _ _) rfl
            have z8 := HZ.out.cell (b := Q) (o := 8) (.here _ _) rfl
            have y0 := HZ.out.free (b := Q) (.here _ _) 0
            have y1 := HZ.out.free (b := Q) (.here _ _) 1
            have y2 := HZ.out.free (b := Q) (.here _ _) 2
            have y3 := HZ.out.free (b := Q) (.here _ _) 3
            have y4 := HZ.out.free (b := Q) (.here _ _) 4
            have y5 := HZ.out.free (b := Q) (.here _ _) 5
            have y6 := HZ.out.free (b := Q) (.here _ _) 6
            have y7 := HZ.out.free (b := Q) (.here _ _) 7
            have y8 := HZ.out.free (b := Q) (.here _ _) 8
            have fin := Lib.hid ((HZ.out.set9 (.int .i64 F1.1) (.int .i64 T1.1) (.int .i64 K0.1) (.int .u64 N1.1) (.int .i64 B1.1) (.int .u64 R.1.1) (.int .u64 R.1.2.1) (.int .u64 R.1.2.2) (.slice ta D1.1.length tc)).re (.step (.there (.here _ _)) (.step (.here _ _) (.step (.here _ _) (.drop (.drop (.same _)))))))
            clear HZ
            gi_wp2_with fail
            refine leaveS (v := .tuple #[gmV ⟨K0.1, F1.1, T1.1, N1.1, B1.1, R.1.1, R.1.2.1, R.1.2.2, D1.1⟩ (.slice ta D1.1.length tc), .int .i64 0]) fin.out ?_ ?_
            · intro V h
              exact dec_results (g := ⟨K0.1, F1.1, T1.1, N1.1, B1.1, R.1.1, R.1.2.1, R.1.2.2, D1.1⟩) h rfl rfl
            · intro V h
              unfold DecPost
              rw [hE.out]
              exact ⟨ta, tc, rfl, h.tail⟩
          · have hE := Lib.hid (hbs.out (fun h => hm h.2))
            have hch := Lib.hid (chk_c ⟨K0.1, F1.1, T1.1, N1.1, B1.1, R.1.1, R.1.2.1, R.1.2.2, D1.1⟩ hok.out ta tc HT'.out 180 (by rw [if_neg hm]))
            unfold gmV at hch
            dsimp only at hch
            clear he hm hbs hgs HT'
            gi_wp2_with fail
            refine ⟨trivial, rfl, calls_in (hno.out.mono ?_)⟩
            rintro e wa ⟨rfl, rfl⟩
            clear hno
            gi_wp2_with fail
            refine ⟨trivial, rfl, calls_in (hch.out.mono ?_)⟩
            rintro e wb ⟨rfl, HB⟩
            clear hch q0 q1 q2 q3 q4 q5 q6 q7 q8
            have HZ := Lib.hid (HB.re (.drop (.drop (.drop (.same _)))))
            have z0 := HZ.out.cell (b := Q) (o := 0) (.here _ _) rfl
            have z1 := HZ.out.cell (b := Q) (o := 1) (.here _ _) rfl
            have z2 := HZ.out.cell (b := Q) (o := 2) (.here _ _) rfl
            have z3 := HZ.out.cell (b := Q) (o := 3) (.here _ _) rfl
            have z4 := HZ.out.cell (b := Q) (o := 4) (.here _ _) rfl
            have z5 := HZ.out.cell (b := Q) (o := 5) (.here _ _) rfl
            have z6 := HZ.out.cell (b := Q) (o := 6) (.here _ _) rfl
            have z7 := HZ.out.cell (b := Q) (o := 7) (.here _ _) rfl
            have z8 := HZ.out.cell (b := Q) (o := 8) (.here _ _) rfl
            have y0 := HZ.out.free (b := Q) (.here _ _) 0
            have y1 := HZ.out.free (b := Q) (.here _ _) 1
            have y2 := HZ.out.free (b := Q) (.here _ _) 2
            have y3 := HZ.out.free (b := Q) (.here _ _) 3
            have y4 := HZ.out.free (b := Q) (.here _ _) 4
            have y5 := HZ.out.free (b := Q) (.here _ _) 5
            have y6 := HZ.out.free (b := Q) (.here _ _) 6
            have y7 := HZ.out.free (b := Q) (.here _ _) 7
            have y8 := HZ.out.free (b := Q) (.here _ _) 8
            have fin := Lib.hid ((HZ.out.set9 (.int .i64 0) (.int .i64 0) (.int .i64 0) (.int .u64 0) (.int .i64 0) (.int .u64 0) (.int .u64 0) (.int .u64 0) (.slice none 0 0)).re (.step (.there (.here _ _)) (.same _)))
            clear HZ
            gi_wp2_with fail
            refine leaveS (v := .tuple #[.agg Z9.toArray, .int .i64 180]) fin.out ?_ ?_
            · intro V h
              exact dec_results (g := Gm0) h rfl rfl
            · intro V h
              exact decPost_zero hE.out h.tail rfl
        · rw [if_neg he] at hno
          have hE := Lib.hid (hbs.out (fun h => he h.1))
          clear he hbs hgs q0 q1 q2 q3 q4 q5 q6 q7 q8
          gi_wp2_with fail
          refine ⟨trivial, rfl, calls_in (hno.out.mono ?_)⟩
          rintro e wa ⟨rfl, rfl⟩
          clear hno
          have HZ := Lib.hid (HT'.out.re (.drop (.drop (.drop (.same _)))))
          have z0 := HZ.out.cell (b := Q) (o := 0) (.here _ _) rfl
          have z1 := HZ.out.cell (b := Q) (o := 1) (.here _ _) rfl
          have z2 := HZ.out.cell (b := Q) (o := 2) (.here _ _) rfl
          have z3 := HZ.out.cell (b := Q) (o := 3) (.here _ _) rfl
          have z4 := HZ.out.cell (b := Q) (o := 4) (.here _ _) rfl
          have z5 := HZ.out.cell (b := Q) (o := 5) (.here _ _) rfl
          have z6 := HZ.out.cell (b := Q) (o := 6) (.here _ _) rfl
          have z7 := HZ.out.cell (b := Q) (o := 7) (.here _ _) rfl
          have z8 := HZ.out.cell (b := Q) (o := 8) (.here _ _) rfl
          have y0 := HZ.out.free (b := Q) (.here _ _) 0
          have y1 := HZ.out.free (b := Q) (.here _ _) 1
          have y2 := HZ.out.free (b := Q) (.here _ _) 2
          have y3 := HZ.out.free (b := Q) (.here _ _) 3
          have y4 := HZ.out.free (b := Q) (.here _ _) 4
          have y5 := HZ.out.free (b := Q) (.here _ _) 5
          have y6 := HZ.out.free (b := Q) (.here _ _) 6
          have y7 := HZ.out.free (b := Q) (.here _ _) 7
          have y8 := HZ.out.free (b := Q) (.here _ _) 8
          have fin := Lib.hid ((HZ.out.set9 (.int .i64 0) (.int .i64 0) (.int .i64 0) (.int .u64 0) (.int .i64 0) (.int .u64 0) (.int .u64 0) (.int .u64 0) (.slice none 0 0)).re (.step (.there (.here _ _)) (.same _)))
          clear HZ
          gi_wp2_with fail
          refine ⟨trivial, ?_⟩
          gi_wp2_with fail
          refine leaveS (v := .tuple #[.agg Z9.toArray, .int .i64 180]) fin.out ?_ ?_
          · intro V h
            exact dec_results (g := Gm0) h rfl rfl
          · intro V h
            exact decPost_zero hE.out h.tail rfl
    · exact fun c i V L D h _ => h.elim
  · have hz40 : openZ bs = 40 := by rcases openZ_or bs with h | h; exact absurd h hz; exact h
    rw [hz40]
    have hdr := Lib.hid (decR_no hz)
    have fin := Lib.hid (H2.tail.set9 (.int .i64 0) (.int .i64 0) (.int .i64 0) (.int .u64 0) (.int .i64 0) (.int .u64 0) (.int .u64 0) (.int .u64 0) (.slice none 0 0))
    have H := H2.tail
    (have C := H.cells; dsimp only [cellsOf, Pc.cells, cellsFrom, Nat.zero_add, Nat.reduceAdd] at C; (try simp only [true_and] at C); (try simp only [and_true] at C))
    obtain ⟨⟨q0, f0, q1, f1, q2, f2, q3, f3, q4, f4, q5, f5, q6, f6, q7, f7, q8, f8⟩, -⟩ := C
    clear H hH2 H2 hz hz40
    gi_wp2_with fail
    exact leave_ret (dec_results (g := Gm0) fin.out rfl rfl) (decPost_zero hdr.out fin.out.tail rfl)
end Go.Proofs.YtilpkfgdlehmpaaDoor
