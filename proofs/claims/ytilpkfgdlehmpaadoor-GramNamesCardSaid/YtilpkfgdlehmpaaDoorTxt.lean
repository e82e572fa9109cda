/- gram.Text. -/
import Derived.Test.YtilpkfgdlehmpaaDoorSay
import Derived.Laws.EntriesVeiled
namespace Go.Proofs.YtilpkfgdlehmpaaDoor
open Go.RowKit Go.Shelf
set_option linter.unusedVariables false
attribute [local go_sem] Oper.semAt_some

theorem SL.toOwnS {w : World} {g : Nat} {cs : List Value} {e : TypeId} {n : Nat} {L : List Pc} (H : SL w (.blk g cs e :: L)) (hl : cs.length = n) (hm : n ≤ maxLen) : SL w (.own e 1 (.slice (some ⟨g, 0, none⟩) n n) n cs :: L) := by
  refine H.upd (q := .own e 1 (.slice (some ⟨g, 0, none⟩) n n) n cs) (Kp.refl _ w) ?_ fun b hb => .inl ?_
  · refine ⟨by omega, .inr ⟨g, n, cs.toArray, rfl, Nat.zero_le _, H.head, Nat.le_refl _, hm, by simp [hl], ?_⟩⟩
    rw [Nat.mul_one, ← hl]
    exact List.take_length
  · have : some g = some b := hb
    cases this
    rfl
/-- A kind's name; a datagram's numbers; its line. -/
def nameK (k : Int) : List UInt8 := if k = 1 then [98, 101, 97, 116] else if k = 2 then [100, 97, 116, 97] else if k = 3 then [97, 99, 107] else []
def nameS (k : Int) : ByteArray := ⟨(nameK k).toArray⟩
def fldU (g : Gm) (ys : List (Nat × Int)) : List Nat := ys.map fun y => (fvK g y.1).toNat
def numsK (g : Gm) : List Nat := [g.fr.toNat, g.dst.toNat, g.n.toNat, g.by'.toNat] ++ fldU g (fldN g.kind) ++ (if g.kind = 2 then [g.data.length] else [])
def lineK (g : Gm) : List UInt8 := nameK g.kind ++ Lib.joinTail [32] ((numsK g).map Lib.decDigits)
def lineS (g : Gm) : ByteArray := if mayK g then ⟨(lineK g).toArray⟩ else ⟨#[]⟩
theorem fldU_snoc {g : Gm} {ys : List (Nat × Int)} {i : Nat} (hi : i < ys.length) : fldU g (ys.take (i + 1)) = fldU g (ys.take i) ++ [(fvK g (ys[i]'hi).1).toNat] := by
  rw [List.take_succ_eq_append_getElem hi]
  unfold fldU
  rw [List.map_append]
  rfl
theorem join_line (k : Int) (us : List Nat) : Lib.join ((nameS k :: us.map decS).map (·.data.toList)) [32] = nameK k ++ Lib.joinTail [32] (us.map Lib.decDigits) := by
  rw [List.map_cons, Lib.join_cons, List.map_map]
  congr 1
/-- The parts of the line behind i fields. -/
def lnP (g : Gm) (KI FR DS NN BY i : Nat) : List ByteArray := [nameS (KI : Int)] ++ ([FR, DS, NN, BY] ++ fldU g ((fldN (KI : Int)).take i)).map decS
theorem joinTail_len : ∀ us : List Nat, (∀ u ∈ us, u < 18446744073709551616) → (Lib.joinTail [32] (us.map Lib.decDigits)).length ≤ 21 * us.length
  | [], _ => by simp [Lib.joinTail]
  | u :: us, h => by
    have ih := joinTail_len us fun x hx => h x (List.mem_cons_of_mem _ hx)
    have hu : (Lib.decDigits u).length ≤ 20 := by
      rw [Lib.decDigits_length]
      by_cases h1 : 1 ≤ u
      · have := Lib.numDigits_eq u h1 (h u (List.mem_cons_self ..)); split at this <;> omega
      · obtain rfl : u = 0 := by omega
        unfold Lib.nDigits
        simp
    have e : Lib.joinTail [32] ((u :: us).map Lib.decDigits) = ([32] ++ Lib.decDigits u) ++ Lib.joinTail [32] (us.map Lib.decDigits) := by simp [Lib.joinTail]
    rw [e]
    simp only [List.length_append, List.length_cons, List.length_nil]
    omega
theorem nameK_len (k : Int) : (nameK k).length ≤ 4 := by
  unfold nameK
  split
  · decide
  · split
    · decide
    · split <;> decide
theorem name_c (k : Int) (w : World) : Calls Tryd.prog 15 #[.int .i64 k] w fun e w' => e = .returned (.string (nameS k)) ∧ w = w' := by
  by_cases h1 : k = 1
  · subst h1
    go_enter Tryd.func15, Tryd.ntmps15
    go_wp2_with fail
    go_ret
    first | exact ⟨rfl, rfl⟩ | rfl | trivial
  have b1 : (k == 1) = false := by simpa using h1
  by_cases h2 : k = 2
  · subst h2
    clear h1
    go_enter Tryd.func15, Tryd.ntmps15
    go_wp2_with fail
    go_ret
    first | exact ⟨rfl, rfl⟩ | rfl | trivial
  have b2 : (k == 2) = false := by simpa using h2
  by_cases h3 : k = 3
  · subst h3
    clear h1 h2
    go_enter Tryd.func15, Tryd.ntmps15
    go_wp2_with fail
    go_ret
    first | exact ⟨rfl, rfl⟩ | rfl | trivial
  have b3 : (k == 3) = false := by simpa using h3
  have hn : nameS k = ⟨#[]⟩ := by unfold nameS nameK; rw [if_neg h1, if_neg h2, if_neg h3]
  rw [hn]
  clear h1 h2 h3 hn
  go_enter Tryd.func15, Tryd.ntmps15
  go_wp2_with fail
  go_ret
  first | exact ⟨rfl, rfl⟩ | rfl | trivial

set_option maxRecDepth 100000 in
set_option maxHeartbeats 8000000 in
theorem txt_c (g : Gm) (ok : GmOk g) (a : Option Addr) (c : Nat) {L : List Pc} {w : World} (H : SL w L) (hl : g.data.length ≤ 1000) (htab : ∀ V, SL V L → TabU V) :
    Calls Tryd.prog 13 #[gmV g (.slice a g.data.length c)] w fun e w' => e = .returned (.string (lineS g)) ∧ SL w' L := by
  have hmx : Tryd.prog.follows .mixedOrders = true := by kernel_rfl
  have hH := Lib.hid (H.alloc (gmC g (.slice a g.data.length c)) 25)
  have ht := Lib.hid htab
  have hchk := Lib.hid (fun w L H E hE => chk_c g ok a c (w := w) (L := L) H E hE)
  have hok := Lib.hid ok
  obtain ⟨S0, hS0⟩ : ∃ S0, lineS g = S0 := ⟨_, rfl⟩
  have hbad : Hid (¬ mayK g → S0 = ⟨#[]⟩) := Lib.hid fun h => by rw [← hS0, lineS, if_neg h]
  have hgood : Hid (mayK g → S0 = ⟨(lineK g).toArray⟩) := Lib.hid fun h => by rw [← hS0, lineS, if_pos h]
  rw [hS0]
  clear hS0 H htab ok
  obtain ⟨dl, hdl⟩ : ∃ dl, g.data.length = dl := ⟨_, rfl⟩
  have hdl' := Lib.hid hdl
  rw [hdl] at hH hchk hl ⊢
  clear hdl
  have hgv : gmV g (.slice a dl c) = .agg #[.int .i64 g.fr, .int .i64 g.dst, .int .i64 g.kind, .int .u64 g.n, .int .i64 g.by', .int .u64 g.seq, .int .u64 g.ack, .int .u64 g.mask, .slice a dl c] := rfl
  rw [hgv] at hchk ⊢
  clear hgv
  unfold gmC at hH
  by_cases hm : mayK g
  · have hm1 := hm.1
    have hm2 := hm.2.1
    have hm3 := hm.2.2.1
    have hm4 : 1 ≤ g.kind ∧ g.kind ≤ 3 := by have := hm.2.2.2.2; unfold formK at this; omega
    unfold nodeK at hm1 hm2 hm3
    have hk0 := Lib.hid (hchk.out _ _ hH.out 0 (by rw [if_pos hm]))
    have hgo := Lib.hid (hgood.out hm)
    have hnU := Lib.hid (fvK_ok hok.out)
    have hn0 := hok.out.n
    obtain ⟨KI, hKI⟩ := Int.eq_ofNat_of_zero_le (show 0 ≤ g.kind by omega)
    obtain ⟨FR, hFR⟩ := Int.eq_ofNat_of_zero_le hm1.1
    obtain ⟨DS, hDS⟩ := Int.eq_ofNat_of_zero_le hm2.1
    obtain ⟨NN, hNN⟩ := Int.eq_ofNat_of_zero_le hn0.1
    obtain ⟨BY, hBY⟩ := Int.eq_ofNat_of_zero_le hm3.1
    have hN64 : Hid (NN < 18446744073709551616) := Lib.hid (by have := hn0.2; omega)
    have hline : Hid (lineK g = nameK (KI : Int) ++ Lib.joinTail [32] (([FR, DS, NN, BY] ++ fldU g (fldN (KI : Int)) ++ (if KI = 2 then [dl] else [])).map Lib.decDigits)) := Lib.hid (by
      unfold lineK numsK
      rw [hKI, hFR, hDS, hNN, hBY, hdl'.out]
      by_cases h : KI = 2
      · rw [if_pos h, if_pos (by omega)]; rfl
      · rw [if_neg h, if_neg (by omega)]; rfl)
    have hgc : Hid (gmC g (.slice a dl c) = [Value.int .i64 FR, .int .i64 DS, .int .i64 KI, .int .u64 NN, .int .i64 BY, .int .u64 g.seq, .int .u64 g.ack, .int .u64 g.mask, .slice a dl c]) := Lib.hid (by unfold gmC; rw [hKI, hFR, hDS, hNN, hBY])
    rw [hKI] at hm4
    rw [hFR] at hm1
    rw [hDS] at hm2
    rw [hBY] at hm3
    rw [hKI, hFR, hDS, hNN, hBY] at hH hk0 ⊢
    clear hKI hFR hDS hNN hBY hn0 hm hbad hgood hchk
    refine calls_of_marks Tryd.func13 rfl ?_
    simp only [Tryd.ntmps13, List.size_toArray, List.length_cons, List.length_nil, Nat.reduceAdd, Nat.reduceSub, Array.replicate_succ, Array.replicate_zero, List.push_toArray, List.append_toArray, List.nil_append, List.cons_append]
    have q0 := hH.out.cell (o := 0) (.here _ _) rfl
    have q1 := hH.out.cell (o := 1) (.here _ _) rfl
    have q2 := hH.out.cell (o := 2) (.here _ _) rfl
    have q3 := hH.out.cell (o := 3) (.here _ _) rfl
    have q4 := hH.out.cell (o := 4) (.here _ _) rfl
    have q5 := hH.out.cell (o := 5) (.here _ _) rfl
    have q6 := hH.out.cell (o := 6) (.here _ _) rfl
    have q7 := hH.out.cell (o := 7) (.here _ _) rfl
    have q8 := hH.out.cell (o := 8) (.here _ _) rfl
    gi_wp2_with fail
    generalize w.alloc (.cells [Value.int .i64 FR, .int .i64 DS, .int .i64 KI, .int .u64 NN, .int .i64 BY, .int .u64 g.seq, .int .u64 g.ack, .int .u64 g.mask, .slice a dl c].toArray 25) = w1 at *
    generalize w.heap.size = G at *
    refine ⟨trivial, rfl, calls_in (hk0.out.mono ?_)⟩
    rintro e w2 ⟨rfl, H2⟩
    clear hk0 hH q0 q1 q2 q3 q4 q5 q6 q7 q8
    have hH2 := Lib.hid H2
    have q2 := H2.cell (b := G) (o := 2) (.here _ _) rfl
    have hnm := Lib.hid (name_c (KI : Int) w2)
    clear H2
    gi_wp2_with fail
    clear q2
    refine ⟨trivial, rfl, calls_in (hnm.out.mono ?_)⟩
    rintro e w2 ⟨rfl, rfl⟩
    clear hnm
    have H3 := (((hH2.out.alloc [.string (nameS (KI : Int))] 9).alloc [.slice (some ⟨w2.heap.size, 0, none⟩) 1 1] 69).alloc [.func (.func 36) #[] #[.pointer (some ⟨w2.heap.size + 1, 0, none⟩)]] 72).alloc [.int .u64 FR, .int .u64 DS, .int .u64 NN, .int .u64 BY] 22
    simp only [World.size_alloc] at H3
    have q0 := hH2.out.cell (b := G) (o := 0) (.here _ _) rfl
    have q1 := hH2.out.cell (b := G) (o := 1) (.here _ _) rfl
    have q3 := hH2.out.cell (b := G) (o := 3) (.here _ _) rfl
    have q4 := hH2.out.cell (b := G) (o := 4) (.here _ _) rfl
    have hlt := cell_lt q0
    have hlt1 : G < w2.heap.size + 1 := by omega
    have hlt2 : G < w2.heap.size + 1 + 1 := by omega
    have hlt3 : G < w2.heap.size + 1 + 1 + 1 := by omega
    have hH3 := Lib.hid H3
    clear H3 hH2
    gi_wp2_with fail
    generalize (((w2.alloc (.cells [Value.string (nameS (KI : Int))].toArray 9)).alloc (.cells [Value.slice (some ⟨w2.heap.size, 0, none⟩) 1 1].toArray 69)).alloc (.cells [Value.func (.func 36) #[] #[.pointer (some ⟨w2.heap.size + 1, 0, none⟩)]].toArray 72)).alloc (.cells [Value.int .u64 FR, .int .u64 DS, .int .u64 NN, .int .u64 BY].toArray 22) = w3 at *
    clear q0 q1 q3 q4 hlt hlt1 hlt2 hlt3
    generalize w2.heap.size + 1 + 1 + 1 = vb at *
    generalize w2.heap.size + 1 + 1 = b4 at *
    generalize w2.heap.size + 1 = b3 at *
    generalize w2.heap.size = xb at *
    have H5 : SL w3 (.blk vb (uv [FR, DS, NN, BY]) 22 :: outP b3 (some ⟨xb, 0, none⟩) 1 [nameS (KI : Int)] (.blk b4 [.func (.func 36) #[] #[.pointer (some ⟨b3, 0, none⟩)]] 72 :: .blk G [.int .i64 FR, .int .i64 DS, .int .i64 KI, .int .u64 NN, .int .i64 BY, .int .u64 g.seq, .int .u64 g.ack, .int .u64 g.mask, .slice a dl c] 25 :: L)) :=
      ((hH3.out.pull (.there (.there (.there (.here _ _))))).toOwnS (n := 1) rfl (by unfold maxLen; omega)).re (.step (.there (.here _ _)) (.step (.there (.there (.here _ _))) (.step (.here _ _) (.same _))))
    have hsy := Lib.hid (say_c [nameS (KI : Int)] [FR, DS, NN, BY] H5 (fun V h => ht.out V h.tail.tail) (by intro u hu; simp at hu; rcases hu with rfl | rfl | rfl | rfl; omega; omega; exact hN64.out; omega) (by simp) (by simp))
    clear H5 hH3
    unfold ptrV at hsy
    refine ⟨trivial, rfl, calls_in (hsy.out.mono ?_)⟩
    rintro e w4 ⟨⟨v0, rfl⟩, sa, sc, H6⟩
    clear hsy
    have H7 := H6.tail
    have cf := Lib.hid (fields_c G (KI : Int) H7 (H7.cell (b := G) (o := 2) (.there (.there (.there (.here _ _)))) rfl))
    clear H6 H7
    unfold ptrV at cf
    gi_wp2_with fail
    refine ⟨trivial, rfl, calls_in (cf.out.mono ?_)⟩
    rintro e wf ⟨A, B, rfl, HF⟩
    clear cf
    have HE := Lib.hid (SL.comm (A := [_, _]) HF)
    clear HF
    unfold ptrV at *
    gi_wp2_with fail
    have hgiv := Lib.hid (fields_gives A B G (KI : Int))
    refine wp_rangeS rfl egF hgiv.out (by intro x hx; obtain ⟨k, _, rfl⟩ := List.mem_map.1 hx; rfl)
      (fun i L' => ∃ sa sc, L' = outP b3 sa sc (lnP g KI FR DS NN BY i) (.blk b4 [.func (.func 36) #[] #[.pointer (some ⟨b3, 0, none⟩)]] 72 :: .blk G [.int .i64 FR, .int .i64 DS, .int .i64 KI, .int .u64 NN, .int .i64 BY, .int .u64 g.seq, .int .u64 g.ack, .int .u64 g.mask, .slice a dl c] 25 :: L))
      (fun _ _ _ => False)
      (L0 := outP b3 sa sc ([nameS (KI : Int)] ++ [FR, DS, NN, BY].map decS) (.blk b4 [.func (.func 36) #[] #[.pointer (some ⟨b3, 0, none⟩)]] 72 :: .blk G [.int .i64 FR, .int .i64 DS, .int .i64 KI, .int .u64 NN, .int .i64 BY, .int .u64 g.seq, .int .u64 g.ack, .int .u64 g.mask, .slice a dl c] 25 :: L))
      ⟨sa, sc, by unfold lnP; rw [List.take_zero, show fldU g [] = [] from rfl, List.append_nil]⟩ HE.out ?_ ?_ ?_
    · rintro i hi V ll _ T ⟨sa, sc, rfl⟩ H
      have hil : i < (fldN (KI : Int)).length := by rw [fldY_length] at hi; exact hi
      have hx : (fldY G (fldN (KI : Int)))[i]'hi = #[.agg #[.pointer (some ⟨G, ((fldN (KI : Int))[i]'hil).1, none⟩), .int .u64 ((fldN (KI : Int))[i]'hil).2]] := by simp [fldY]
      rw [hx]
      have hsn := fldU_snoc (g := g) hil
      have hgat := gm_at (g := g) (d := .slice a dl c) hil
      have hl3 : (fldU g ((fldN (KI : Int)).take i)).length ≤ 3 := by unfold fldU; rw [List.length_map, List.length_take]; have := fldN_len (KI : Int); omega
      generalize ((fldN (KI : Int))[i]'hil).1 = q at *
      generalize ((fldN (KI : Int))[i]'hil).2 = M at *
      have hQ := hnU.out q
      generalize fvK g q = Q at *
      obtain ⟨N, rfl⟩ := Int.eq_ofNat_of_zero_le hQ.1
      have hN : Hid (N < 18446744073709551616) := Lib.hid (by have := hQ.2; omega)
      rw [Int.toNat_natCast] at hsn
      have hnx : Hid (lnP g KI FR DS NN BY (i + 1) = lnP g KI FR DS NN BY i ++ [N].map decS) := Lib.hid (by unfold lnP; rw [hsn, ← List.append_assoc, List.map_append, List.append_assoc])
      have hl80 : (lnP g KI FR DS NN BY i).length ≤ 80 := by unfold lnP; simp only [List.length_append, List.length_map, List.length_cons, List.length_nil]; omega
      generalize lnP g KI FR DS NN BY i = ls at *
      rw [hgc.out] at hgat
      have hgat' := Lib.hid hgat
      have hHv := Lib.hid H
      clear hx hsn hl3 hQ HE hgat H
      gi_wp2_with fail
      have H1 := hHv.out.alloc [.pointer (some ⟨G, q, none⟩), .int .u64 M] 60
      generalize V.heap.size = S at *
      refine ⟨.blk S [.pointer (some ⟨G, q, none⟩), .int .u64 M] 60 :: outP b3 sa sc ls (.blk b4 [.func (.func 36) #[] #[.pointer (some ⟨b3, 0, none⟩)]] 72 :: .blk G [.int .i64 FR, .int .i64 DS, .int .i64 KI, .int .u64 NN, .int .i64 BY, .int .u64 g.seq, .int .u64 g.ack, .int .u64 g.mask, .slice a dl c] 25 :: L), H1, ?_⟩
      clear H1 hHv
      intro V2 T2 H
      obtain ⟨ZZ, hZZ⟩ : ∃ ZZ, L ++ ([.blk B [fldS A (KI : Int)] 92, fldP A G] ++ T2) = ZZ := ⟨_, rfl⟩
      have hH : Hid (SL V2 (.blk S [.pointer (some ⟨G, q, none⟩), .int .u64 M] 60 :: outP b3 sa sc ls (.blk b4 [.func (.func 36) #[] #[.pointer (some ⟨b3, 0, none⟩)]] 72 :: .blk G [.int .i64 FR, .int .i64 DS, .int .i64 KI, .int .u64 NN, .int .i64 BY, .int .u64 g.seq, .int .u64 g.ack, .int .u64 g.mask, .slice a dl c] 25 :: ZZ))) := Lib.hid (by rw [← hZZ]; exact H)
      have htz : Hid (∀ W, SL W ZZ → TabU W) := Lib.hid fun W h => ht.out W (SL.dropEnd (A := []) (L := L) (E := [.blk B [fldS A (KI : Int)] 92, fldP A G] ++ T2) (by rw [List.nil_append, hZZ]; exact h))
      have hZZ' := Lib.hid hZZ
      clear H hZZ
      gi_wp2_with fail
      refine region_round (S := (fun W => W.cell? ⟨S, 0, none⟩ = some (.pointer (some ⟨G, q, none⟩)) ∧ W.cell? ⟨b4, 0, none⟩ = some (.func (.func 36) #[] #[.pointer (some ⟨b3, 0, none⟩)]) ∧ W.cell? ⟨G, q, none⟩ = some (.int .u64 (N : Int)))) (fun _ w => ∃ sa sc, SL w (outP b3 sa sc (ls ++ [N].map decS) (.blk S [.pointer (some ⟨G, q, none⟩), .int .u64 M] 60 :: .blk b4 [.func (.func 36) #[] #[.pointer (some ⟨b3, 0, none⟩)]] 72 :: .blk G [.int .i64 FR, .int .i64 DS, .int .i64 KI, .int .u64 NN, .int .i64 BY, .int .u64 g.seq, .int .u64 g.ack, .int .u64 g.mask, .slice a dl c] 25 :: ZZ))) (by kernel_rfl) (by kernel_rfl) ?_ (fun hHeld => ?_) ?_
      · exact ⟨hH.out.drew.cell (b := S) (o := 0) (.here _ _) rfl, hH.out.drew.cell (b := b4) (o := 0) (.there (.there (.there (.here _ _)))) rfl, hH.out.drew.cell (b := G) (o := q) (.there (.there (.there (.there (.here _ _))))) hgat'.out⟩
      have H := hH.out.drew
      generalize World.drew V2 = w5 at *
      clear hH
      refine takeL (i := 0) rfl (by kernel_rfl) (by kernel_rfl) (by kernel_rfl) (fun _ _ _ _ h => h) hHeld ?_ (Or.inl ⟨by rfl, ?_⟩) ?_
      rotate_left
      · intro W hW
        (try dsimp only at hW)
        first | (go_simp; done) | (go_simp; with_reducible rfl)
      ((try simp only [Act.put]); (try simp only [List.setIfInBounds_toArray]); (try simp only [List.set_cons_succ]); (try simp only [List.set_cons_zero]))
      refine takeL (i := 1) rfl (by kernel_rfl) (by kernel_rfl) (by kernel_rfl) (fun _ _ _ _ h => h) hHeld ?_ (Or.inl ⟨by rfl, ?_⟩) ?_
      rotate_left
      · intro W hW
        (try dsimp only at hW)
        first | (go_simp; done) | (go_simp; with_reducible rfl)
      ((try simp only [Act.put]); (try simp only [List.setIfInBounds_toArray]); (try simp only [List.set_cons_succ]); (try simp only [List.set_cons_zero]))
      refine takeL (i := 2) rfl (by kernel_rfl) (by kernel_rfl) (by kernel_rfl) (fun _ _ _ _ h => h) hHeld ?_ (Or.inl ⟨by rfl, ?_⟩) ?_
      rotate_left
      · intro W hW
        (try dsimp only at hW)
        first | (go_simp; done) | (go_simp; with_reducible rfl)
      ((try simp only [Act.put]); (try simp only [List.setIfInBounds_toArray]); (try simp only [List.set_cons_succ]); (try simp only [List.set_cons_zero]))
      refine takeL (i := 3) rfl (by kernel_rfl) (by kernel_rfl) (by kernel_rfl) (fun _ _ _ _ h => h) hHeld ?_ (Or.inl ⟨by rfl, ?_⟩) ?_
      rotate_left
      · intro W hW
        (try dsimp only at hW)
        first | (go_simp; done) | (go_simp; with_reducible rfl)
      ((try simp only [Act.put]); (try simp only [List.setIfInBounds_toArray]); (try simp only [List.set_cons_succ]); (try simp only [List.set_cons_zero]))
      refine takeL (i := 4) rfl (by kernel_rfl) (by kernel_rfl) (by kernel_rfl) (fun _ _ _ _ h => h) hHeld ?_ (Or.inl ⟨by rfl, ?_⟩) ?_
      rotate_left
      · intro W hW
        (try dsimp only at hW)
        first | (go_simp; done) | (go_simp; with_reducible rfl)
      ((try simp only [Act.put]); (try simp only [List.setIfInBounds_toArray]); (try simp only [List.set_cons_succ]); (try simp only [List.set_cons_zero]))
      refine callL (i := 5) rfl (by kernel_rfl) (fun K hK => ?_)
      rw [if_pos (by rfl)]
      go_simp
      have H' := H.alloc [.int .u64 (N : Int)] 22
      clear H hHeld
      have H := H'
      clear H'
      generalize w5.alloc (.cells [Value.int .u64 (N : Int)].toArray 22) = w6 at *
      generalize w5.heap.size = v2 at *
      refine hK.out _ _ ?_ (fun hHeld => ?_)
      · first | exact ⟨H.cell (b := S) (o := 0) (.there (.here _ _)) rfl, H.cell (b := b4) (o := 0) (.there (.there (.there (.there (.here _ _))))) rfl, H.cell (b := G) (o := q) (.there (.there (.there (.there (.there (.here _ _)))))) hgat'.out⟩ | exact ⟨H.cell (b := S) (o := 0) (.there (.there (.here _ _))) rfl, H.cell (b := b4) (o := 0) (.there (.there (.there (.here _ _)))) rfl, H.cell (b := G) (o := q) (.there (.there (.there (.there (.here _ _))))) hgat'.out⟩
      clear hK K
      ((try simp only [Act.put]); (try simp only [List.setIfInBounds_toArray]); (try simp only [List.set_cons_succ]); (try simp only [List.set_cons_zero]))
      refine callL (i := 6) rfl (by kernel_rfl) (fun K hK => ?_)
      rw [if_pos (by rfl)]
      have cc := Lib.hid (say_c (b := b3) (vb := v2) (a := sa) (c := sc) ls [N] (L := .blk S [.pointer (some ⟨G, q, none⟩), .int .u64 M] 60 :: .blk b4 [.func (.func 36) #[] #[.pointer (some ⟨b3, 0, none⟩)]] 72 :: .blk G [.int .i64 FR, .int .i64 DS, .int .i64 KI, .int .u64 NN, .int .i64 BY, .int .u64 g.seq, .int .u64 g.ack, .int .u64 g.mask, .slice a dl c] 25 :: ZZ) (H.re (.step (.here _ _) (.step (.there (.here _ _)) (.step (.there (.here _ _)) (.same _))))) (fun V h => htz.out V h.tail.tail.tail) (by intro u hu; rw [List.mem_singleton.1 hu]; exact hN.out) (by simp) (by omega))
      unfold ptrV at cc
      go_simp
      refine cc.out.mono ?_
      rintro e w7 ⟨⟨vv, rfl⟩, s2, c2, H7⟩
      clear H hHeld cc
      have H := H7.tail
      clear H7
      refine hK.out _ _ ?_ (fun hHeld => ?_)
      · first | exact ⟨H.cell (b := S) (o := 0) (.there (.here _ _)) rfl, H.cell (b := b4) (o := 0) (.there (.there (.there (.there (.here _ _))))) rfl, H.cell (b := G) (o := q) (.there (.there (.there (.there (.there (.here _ _)))))) hgat'.out⟩ | exact ⟨H.cell (b := S) (o := 0) (.there (.there (.here _ _))) rfl, H.cell (b := b4) (o := 0) (.there (.there (.there (.here _ _)))) rfl, H.cell (b := G) (o := q) (.there (.there (.there (.there (.here _ _))))) hgat'.out⟩
      clear hK K
      ((try simp only [Act.put]); (try simp only [List.setIfInBounds_toArray]); (try simp only [List.set_cons_succ]); (try simp only [List.set_cons_zero]))
      refine wpAnyH_done (by kernel_rfl) ?_ _
      exact ⟨_, _, H⟩
      rintro act w8 ⟨s2, c2, H8⟩
      refine ⟨_, ⟨s2, c2, rfl⟩, ?_⟩
      rw [hnx.out]
      rw [← hZZ'.out] at H8
      exact H8.re (.step (.here _ _) (.step (.here _ _) (.drop (.same _))))
    · rintro V _ D ⟨sa, sc, rfl⟩ H
      rw [fldY_length] at H
      have hT0 : Hid (SL V (outP b3 sa sc (lnP g KI FR DS NN BY (fldN (KI : Int)).length) (.blk b4 [.func (.func 36) #[] #[.pointer (some ⟨b3, 0, none⟩)]] 72 :: .blk G [.int .i64 FR, .int .i64 DS, .int .i64 KI, .int .u64 NN, .int .i64 BY, .int .u64 g.seq, .int .u64 g.ack, .int .u64 g.mask, .slice a dl c] 25 :: .obj D (.deferred (some [])) :: L))) := Lib.hid
        (SL.dropEnd (A := [.blk b3 [.slice sa (lnP g KI FR DS NN BY (fldN (KI : Int)).length).length sc] 69, .own 9 1 (.slice sa (lnP g KI FR DS NN BY (fldN (KI : Int)).length).length sc) (lnP g KI FR DS NN BY (fldN (KI : Int)).length).length (stV (lnP g KI FR DS NN BY (fldN (KI : Int)).length)), .blk b4 [.func (.func 36) #[] #[.pointer (some ⟨b3, 0, none⟩)]] 72, .blk G [.int .i64 FR, .int .i64 DS, .int .i64 KI, .int .u64 NN, .int .i64 BY, .int .u64 g.seq, .int .u64 g.ack, .int .u64 g.mask, .slice a dl c] 25, .obj D (.deferred (some []))]) (H.re (.step (.there (.here _ _)) (.step (.there (.here _ _)) (.step (.there (.here _ _)) (.step (.there (.here _ _)) (.same _)))))))
      have hLS0 : Hid (lnP g KI FR DS NN BY (fldN (KI : Int)).length = nameS (KI : Int) :: ([FR, DS, NN, BY] ++ fldU g (fldN (KI : Int))).map decS) := Lib.hid (by unfold lnP; rw [List.take_length]; rfl)
      have hfu : Hid (∀ u ∈ fldU g (fldN (KI : Int)), u < 18446744073709551616) := Lib.hid (by
        intro u hu
        unfold fldU at hu
        obtain ⟨y, -, rfl⟩ := List.mem_map.1 hu
        have := hnU.out y.1
        unfold U64 at this
        omega)
      have hus0 : Hid (∀ u ∈ [FR, DS, NN, BY] ++ fldU g (fldN (KI : Int)), u < 18446744073709551616) := Lib.hid (by
        intro u hu
        rcases List.mem_append.1 hu with h | h
        · simp at h; rcases h with rfl | rfl | rfl | rfl; omega; omega; exact hN64.out; omega
        · exact hfu.out u h)
      have hul0 : Hid (([FR, DS, NN, BY] ++ fldU g (fldN (KI : Int))).length ≤ 7) := Lib.hid (by rw [List.length_append]; unfold fldU; rw [List.length_map]; have := fldN_len (KI : Int); simp only [List.length_cons, List.length_nil]; omega)
      clear H HE hgiv
      generalize lnP g KI FR DS NN BY (fldN (KI : Int)).length = LS0 at *
      have hq0 := hT0.out.cell (b := G) (o := 2) (.there (.there (.there (.here _ _)))) rfl
      by_cases hk2 : KI = 2
      · have hkb : ((KI : Int) == 2) = true := by simp; omega
        have hq8 := hT0.out.cell (b := G) (o := 8) (.there (.there (.there (.here _ _)))) rfl
        have hq4 := hT0.out.cell (b := b4) (o := 0) (.there (.there (.here _ _))) rfl
        have HV := hT0.out.alloc [.int .u64 (dl : Int)] 22
        have hl0 : LS0.length ≤ 1000 := by rw [hLS0.out, List.length_cons, List.length_map]; have := hul0.out; omega
        have hsy := Lib.hid (say_c (b := b3) (a := sa) (c := sc) LS0 [dl] (L := .blk b4 [.func (.func 36) #[] #[.pointer (some ⟨b3, 0, none⟩)]] 72 :: .blk G [.int .i64 FR, .int .i64 DS, .int .i64 KI, .int .u64 NN, .int .i64 BY, .int .u64 g.seq, .int .u64 g.ack, .int .u64 g.mask, .slice a dl c] 25 :: .obj D (.deferred (some [])) :: L) HV (fun V h => ht.out V h.tail.tail.tail) (by intro u hu; rw [List.mem_singleton.1 hu]; omega) (by simp) hl0)
        have hdlw : IntKind.u64.wrap (dl : Int) = (dl : Int) := by unfold IntKind.wrap; simp [IntKind.bits, IntKind.signed]; omega
        have hk2' := Lib.hid hk2
        clear hk2 hT0 HV hl0
        unfold ptrV at hsy
        gi_wp2_with fail
        clear hq0 hq8 hq4 hdlw
        refine ⟨trivial, rfl, calls_in (hsy.out.mono ?_)⟩
        rintro e wT ⟨⟨vv, rfl⟩, sa, sc, HT⟩
        clear hsy
        have hT := Lib.hid HT.tail
        clear HT
        have hLS : Hid (LS0 ++ [dl].map decS = nameS (KI : Int) :: ([FR, DS, NN, BY] ++ fldU g (fldN (KI : Int)) ++ [dl]).map decS) := Lib.hid (by rw [hLS0.out]; simp [List.map_append])
        have hus : Hid (∀ u ∈ [FR, DS, NN, BY] ++ fldU g (fldN (KI : Int)) ++ [dl], u < 18446744073709551616) := Lib.hid (by
          intro u hu
          rcases List.mem_append.1 hu with h | h
          · exact hus0.out u h
          · rw [List.mem_singleton.1 h]; omega)
        have hul : Hid (([FR, DS, NN, BY] ++ fldU g (fldN (KI : Int)) ++ [dl]).length ≤ 8) := Lib.hid (by rw [List.length_append, List.length_singleton]; have := hul0.out; omega)
        clear hLS0 hus0 hul0 hfu
        generalize LS0 ++ [dl].map decS = LS at *
        have hq := hT.out.cell (b := b3) (o := 0) (.here _ _) rfl
        gi_wp2_with fail
        clear hq
        obtain ⟨sg, rfl, hsc⟩ : ∃ sg, sa = some ⟨sg, 0, none⟩ ∧ LS.length ≤ sc := by
          have h : OwnK wT 0 9 1 (.slice sa LS.length sc) LS.length (stV LS) := hT.out.tail.head
          rcases h.form with ⟨e, h2, _⟩ | ⟨g', cap, e, _, _, hc, _⟩
          · rw [hLS.out] at h2; simp at h2
          · cases e; exact ⟨g', rfl, hc⟩
        have hcl : ∀ (j : Nat) x, LS[j]? = some x → wT.cell? ⟨sg, 0 + j, none⟩ = some (.string x) := by
          intro j x hx
          have h : OwnK wT 0 9 1 (.slice (some ⟨sg, 0, none⟩) LS.length sc) LS.length (stV LS) := hT.out.tail.head
          have hj : j < LS.length := (List.getElem?_eq_some_iff.1 hx).1
          rcases h.form with ⟨e, _⟩ | ⟨g', cap, e, _, _, _, _, _, h7, _⟩
          · cases e
          · cases e
            rw [Nat.zero_add, h7 j (by omega)]
            unfold stV
            rw [List.getD_eq_getElem?_getD, List.getElem?_map, hx]
            rfl
        have hbk : sg < wT.heap.size := (OwnK.block (show OwnK wT 0 9 1 (.slice (some ⟨sg, 0, none⟩) LS.length sc) LS.length (stV LS) from hT.out.tail.head) rfl).2
        have hjl : Lib.join (LS.map (·.data.toList)) [32] = lineK g := by rw [hLS.out, join_line, hline.out]; rw [if_pos hk2'.out]
        have hjn : (lineK g).length ≤ 140737488355328 := by
          rw [← hjl, hLS.out, join_line, List.length_append]
          have h1 := nameK_len (KI : Int)
          have h2 := joinTail_len ([FR, DS, NN, BY] ++ fldU g (fldN (KI : Int)) ++ [dl]) hus.out
          have h3 := hul.out
          omega
        have hln : LS.length ≤ 140737488355328 := by rw [hLS.out, List.length_cons, List.length_map]; have := hul.out; omega
        have hJ := Tryd.strings_Join sg 0 sc LS ⟨#[32]⟩ wT hcl hbk hln hsc (by rw [show (⟨#[32]⟩ : ByteArray).data.toList = [32] from rfl, hjl]; exact hjn)
        rw [show (⟨#[32]⟩ : ByteArray).data.toList = [32] from rfl, hjl, ← hgo.out] at hJ
        have hJ' := Lib.hid hJ
        clear hJ hcl hjl hjn hln hbk
        refine ⟨trivial, rfl, calls_in (hJ'.out.mono ?_)⟩
        rintro e wz ⟨rfl, hbel⟩
        have HZ := Lib.hid ((hT.out.quiet (Kp.of_below_self hbel)).re (.step (.there (.there (.there (.there (.here _ _))))) (.drop (.drop (.drop (.drop (.same _)))))))
        clear hJ' hT hbel
        gi_wp2_with fail
        refine leaveS (v := .string S0) HZ.out ?_ ?_
        · intro V h
          simp [results, Tryd.results13, go_sem]
        · intro V h
          exact ⟨rfl, h⟩
      · have hkb : ((KI : Int) == 2) = false := by simp; omega
        have hk2' := Lib.hid hk2
        have hT := hT0
        have hLS := hLS0
        have hus := hus0
        have hul := hul0
        clear hk2 hT0 hLS0 hus0 hul0 hfu
        generalize LS0 = LS at *
        generalize V = wT at *
        have hq := hT.out.cell (b := b3) (o := 0) (.here _ _) rfl
        gi_wp2_with fail
        clear hq
        obtain ⟨sg, rfl, hsc⟩ : ∃ sg, sa = some ⟨sg, 0, none⟩ ∧ LS.length ≤ sc := by
          have h : OwnK wT 0 9 1 (.slice sa LS.length sc) LS.length (stV LS) := hT.out.tail.head
          rcases h.form with ⟨e, h2, _⟩ | ⟨g', cap, e, _, _, hc, _⟩
          · rw [hLS.out] at h2; simp at h2
          · cases e; exact ⟨g', rfl, hc⟩
        have hcl : ∀ (j : Nat) x, LS[j]? = some x → wT.cell? ⟨sg, 0 + j, none⟩ = some (.string x) := by
          intro j x hx
          have h : OwnK wT 0 9 1 (.slice (some ⟨sg, 0, none⟩) LS.length sc) LS.length (stV LS) := hT.out.tail.head
          have hj : j < LS.length := (List.getElem?_eq_some_iff.1 hx).1
          rcases h.form with ⟨e, _⟩ | ⟨g', cap, e, _, _, _, _, _, h7, _⟩
          · cases e
          · cases e
            rw [Nat.zero_add, h7 j (by omega)]
            unfold stV
            rw [List.getD_eq_getElem?_getD, List.getElem?_map, hx]
            rfl
        have hbk : sg < wT.heap.size := (OwnK.block (show OwnK wT 0 9 1 (.slice (some ⟨sg, 0, none⟩) LS.length sc) LS.length (stV LS) from hT.out.tail.head) rfl).2
        have hjl : Lib.join (LS.map (·.data.toList)) [32] = lineK g := by rw [hLS.out, join_line, hline.out]; rw [if_neg hk2'.out, List.append_nil]
        have hjn : (lineK g).length ≤ 140737488355328 := by
          rw [← hjl, hLS.out, join_line, List.length_append]
          have h1 := nameK_len (KI : Int)
          have h2 := joinTail_len ([FR, DS, NN, BY] ++ fldU g (fldN (KI : Int))) hus.out
          have h3 := hul.out
          omega
        have hln : LS.length ≤ 140737488355328 := by rw [hLS.out, List.length_cons, List.length_map]; have := hul.out; omega
        have hJ := Tryd.strings_Join sg 0 sc LS ⟨#[32]⟩ wT hcl hbk hln hsc (by rw [show (⟨#[32]⟩ : ByteArray).data.toList = [32] from rfl, hjl]; exact hjn)
        rw [show (⟨#[32]⟩ : ByteArray).data.toList = [32] from rfl, hjl, ← hgo.out] at hJ
        have hJ' := Lib.hid hJ
        clear hJ hcl hjl hjn hln hbk
        refine ⟨trivial, rfl, calls_in (hJ'.out.mono ?_)⟩
        rintro e wz ⟨rfl, hbel⟩
        have HZ := Lib.hid ((hT.out.quiet (Kp.of_below_self hbel)).re (.step (.there (.there (.there (.there (.here _ _))))) (.drop (.drop (.drop (.drop (.same _)))))))
        clear hJ' hT hbel
        gi_wp2_with fail
        refine leaveS (v := .string S0) HZ.out ?_ ?_
        · intro V h
          simp [results, Tryd.results13, go_sem]
        · intro V h
          exact ⟨rfl, h⟩
    · exact fun c i V L D h _ => h.elim
  · have hk0 := Lib.hid (hchk.out _ _ hH.out 180 (by rw [if_neg hm]))
    have hE := Lib.hid (hbad.out hm)
    have q0 := hH.out.cell (o := 0) (.here _ _) rfl
    have q1 := hH.out.cell (o := 1) (.here _ _) rfl
    have q2 := hH.out.cell (o := 2) (.here _ _) rfl
    have q3 := hH.out.cell (o := 3) (.here _ _) rfl
    have q4 := hH.out.cell (o := 4) (.here _ _) rfl
    have q5 := hH.out.cell (o := 5) (.here _ _) rfl
    have q6 := hH.out.cell (o := 6) (.here _ _) rfl
    have q7 := hH.out.cell (o := 7) (.here _ _) rfl
    have q8 := hH.out.cell (o := 8) (.here _ _) rfl
    clear hm hbad hgood
    go_enter Tryd.func13, Tryd.ntmps13
    go_wp2_with fail
    refine hk0.out.mono ?_
    rintro e w2 ⟨rfl, H2⟩
    have hH2 := Lib.hid H2.tail
    clear hk0 H2
    go_wp2_with fail
    go_ret
    exact ⟨by rw [hE.out]; rfl, hH2.out⟩
end Go.Proofs.YtilpkfgdlehmpaaDoor
