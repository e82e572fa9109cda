/- gram.Check. -/
import Derived.Test.YtilpkfgdlehmpaaDoorChkL
import Derived.RangeFuncCalls
import Derived.Shelf.RegionOpen
namespace Go.Proofs.YtilpkfgdlehmpaaDoor
open Go.RowKit Go.Shelf
set_option linter.unusedVariables false
attribute [local go_sem] Oper.semAt_some

/-- A datagram as a value. -/
def gmV (g : Gm) (d : Value) : Value := .agg #[.int .i64 g.fr, .int .i64 g.dst, .int .i64 g.kind, .int .u64 g.n, .int .i64 g.by', .int .u64 g.seq, .int .u64 g.ack, .int .u64 g.mask, d]
def ndK (g : Gm) (k : Nat) : Int := if k = 0 then g.fr else if k = 1 then g.dst else g.by'

set_option maxRecDepth 100000 in
set_option maxHeartbeats 8000000 in
theorem chk_c (g : Gm) (ok : GmOk g) (a : Option Addr) (c : Nat) {L : List Pc} {w : World} (H : SL w L) (E : Int) (hE : E = if mayK g then 0 else 180) :
    Calls Tryd.prog 11 #[gmV g (.slice a g.data.length c)] w fun e w' => e = .returned (.int .i64 E) ∧ SL w' L := by
  have hf := Lib.hid (fun p kind L w H h => fields_c p kind (L := L) (w := w) H h)
  have hg := Lib.hid (fun A B p => fields_gives A B p g.kind)
  have hmx : Tryd.prog.follows .mixedOrders = true := by kernel_rfl
  have hH := Lib.hid (H.alloc (gmC g (.slice a g.data.length c)) 25)
  have hbad : Hid (¬ mayK g → E = 180) := Lib.hid fun h => by rw [hE, if_neg h]
  have hgood : Hid (mayK g → E = 0) := Lib.hid fun h => by rw [hE, if_pos h]
  have hok := Lib.hid ok
  clear H hE ok
  obtain ⟨kind, fr, dst, n, by1, seq, ack, mask, data⟩ := g
  have hnd : Hid (∀ k, k < 3 → ¬ nodeK (ndK ⟨kind, fr, dst, n, by1, seq, ack, mask, data⟩ k) → E = 180) := Lib.hid fun k hk h => hbad.out fun hm => h (by
    have : k = 0 ∨ k = 1 ∨ k = 2 := by omega
    rcases this with rfl | rfl | rfl
    · exact hm.1
    · exact hm.2.1
    · exact hm.2.2.1)
  obtain ⟨m, hd⟩ : ∃ m, data.length = m := ⟨_, rfl⟩
  have hd' := Lib.hid hd
  dsimp only at hH ⊢
  rw [hd] at hH ⊢
  clear hd
  simp only [gmV, gmC] at *
  refine calls_of_marks Tryd.func11 rfl ?_
  simp only [Tryd.ntmps11, List.size_toArray, List.length_cons, List.length_nil, Nat.reduceAdd, Nat.reduceSub, Array.replicate_succ, Array.replicate_zero, List.push_toArray, List.append_toArray, List.nil_append, List.cons_append]
  gi_wp2_with (first | refine wpIn_label ?_ | refine scope_in ?_)
  generalize w.alloc (.cells [Value.int .i64 fr, .int .i64 dst, .int .i64 kind, .int .u64 n, .int .i64 by1, .int .u64 seq, .int .u64 ack, .int .u64 mask, .slice a m c].toArray 25) = w1 at *
  generalize w.heap.size = G at *
  gi_loopw [15] (fun i V => ∃ k : Nat, k ≤ 3 ∧ i = .int .i64 k ∧ w1 = V ∧ Hid (∀ j, j < k → nodeK (ndK ⟨kind, fr, dst, n, by1, seq, ack, mask, data⟩ j))) (fun i _ => 3 - (intOf i).toNat)
  case atStart => exact ⟨0, by omega, rfl, rfl, Lib.hid fun j hj => absurd hj (Nat.not_lt_zero _)⟩
  case round =>
    obtain ⟨k, hk, rfl, rfl, hR⟩ := hrel
    by_cases hlt : k < 3
    · obtain ⟨v, hv⟩ : ∃ v, ndK ⟨kind, fr, dst, n, by1, seq, ack, mask, data⟩ k = v := ⟨_, rfl⟩
      have hix : ∀ w, (Instr.index 67 (.agg #[.int .i64 fr, .int .i64 dst, .int .i64 by1]) (.int .i64 (k : Int))).run Tryd.prog w = .ok (.int .i64 v) w := fun w => by
        have : k = 0 ∨ k = 1 ∨ k = 2 := by omega
        rcases this with rfl | rfl | rfl
        · obtain rfl : fr = v := hv
          exact (show (Instr.index 67 (.agg #[.int .i64 fr, .int .i64 dst, .int .i64 by1]) (.int .i64 0)).run Tryd.prog w = .ok (.int .i64 fr) w by kernel_rfl)
        · obtain rfl : dst = v := hv
          exact (show (Instr.index 67 (.agg #[.int .i64 fr, .int .i64 dst, .int .i64 by1]) (.int .i64 1)).run Tryd.prog w = .ok (.int .i64 dst) w by kernel_rfl)
        · obtain rfl : by1 = v := hv
          exact (show (Instr.index 67 (.agg #[.int .i64 fr, .int .i64 dst, .int .i64 by1]) (.int .i64 2)).run Tryd.prog w = .ok (.int .i64 by1) w by kernel_rfl)
      have hbk : Hid (¬ nodeK v → E = 180) := Lib.hid fun h => hnd.out k hlt (by rw [hv]; exact h)
      have hgk : Hid (nodeK v → ∀ j, j < k + 1 → nodeK (ndK ⟨kind, fr, dst, n, by1, seq, ack, mask, data⟩ j)) := Lib.hid fun h j hj => by
        by_cases hjk : j = k
        · rw [hjk, hv]; exact h
        · exact hR.out j (by omega)
      clear hv hR
      by_cases h0 : v < 0
      · have hE := Lib.hid (hbk.out (by unfold nodeK; omega))
        clear hbk hgk
        gi_wp2_with fail
        repeat (first | rw [Exit.noGoto_ret] | gi_step)
        refine leave_ret (v := .int .i64 180) (by simp [results, Tryd.results11, go_sem]) ⟨by rw [hE.out], hH.out.tail⟩
      by_cases h1 : 63 < v
      · have hE := Lib.hid (hbk.out (by unfold nodeK; omega))
        clear hbk hgk
        gi_wp2_with fail
        repeat (first | rw [Exit.noGoto_ret] | gi_step)
        refine leave_ret (v := .int .i64 180) (by simp [results, Tryd.results11, go_sem]) ⟨by rw [hE.out], hH.out.tail⟩
      · have hR2 := Lib.hid (hgk.out ⟨by omega, by omega⟩)
        clear hbk hgk
        gi_wp2_with fail
        go_roundw
        case rel => exact ⟨k + 1, by omega, by go_num, by first | rfl | trivial, hR2⟩
        case measure => (simp [intOf]; try omega)
    · obtain rfl : k = 3 := by omega
      have hR2 : Hid (nodeK fr ∧ nodeK dst ∧ nodeK by1) := Lib.hid ⟨hR.out 0 (by omega), hR.out 1 (by omega), hR.out 2 (by omega)⟩
      clear hR hnd
      have q0 := hH.out.cell (b := G) (o := 0) (.here _ _) rfl
      have q1 := hH.out.cell (b := G) (o := 1) (.here _ _) rfl
      have q2 := hH.out.cell (b := G) (o := 2) (.here _ _) rfl
      have q3 := hH.out.cell (b := G) (o := 3) (.here _ _) rfl
      have q4 := hH.out.cell (b := G) (o := 4) (.here _ _) rfl
      have q5 := hH.out.cell (b := G) (o := 5) (.here _ _) rfl
      have q6 := hH.out.cell (b := G) (o := 6) (.here _ _) rfl
      have q7 := hH.out.cell (b := G) (o := 7) (.here _ _) rfl
      have q8 := hH.out.cell (b := G) (o := 8) (.here _ _) rfl
      by_cases hft : fr = dst
      · have hE := Lib.hid (hbad.out fun h => h.2.2.2.1 hft)
        have hb : (fr == dst) = true := by simpa using hft
        clear hft
        gi_wp2_with fail
        repeat (first | rw [Exit.noGoto_ret] | gi_step)
        refine leave_ret (v := .int .i64 180) (by simp [results, Tryd.results11, go_sem]) ⟨by rw [hE.out], hH.out.tail⟩
      have hb : (fr == dst) = false := by simpa using hft
      by_cases hk1 : kind < 1
      · have hE := Lib.hid (hbad.out fun h => by have := h.2.2.2.2; unfold formK at this; dsimp only at this; omega)
        gi_wp2_with fail
        repeat (first | rw [Exit.noGoto_ret] | gi_step)
        refine leave_ret (v := .int .i64 180) (by simp [results, Tryd.results11, go_sem]) ⟨by rw [hE.out], hH.out.tail⟩
      by_cases hk3 : 3 < kind
      · have hE := Lib.hid (hbad.out fun h => by have := h.2.2.2.2; unfold formK at this; dsimp only at this; omega)
        gi_wp2_with fail
        repeat (first | rw [Exit.noGoto_ret] | gi_step)
        refine leave_ret (v := .int .i64 180) (by simp [results, Tryd.results11, go_sem]) ⟨by rw [hE.out], hH.out.tail⟩
      have hft' := Lib.hid hft
      clear hft
      gi_wp2_with (first | refine wpIn_label ?_ | refine scope_in ?_)
      have H1 := (hH.out.alloc [Value.int .i64 fr, .int .i64 dst, .int .i64 kind, .int .u64 n, .int .i64 by1, .int .u64 seq, .int .u64 ack, .int .u64 mask, .slice a m c] 25).alloc [.bool true] 4
      rw [World.size_alloc] at H1
      generalize (w1.alloc (.cells [Value.int .i64 fr, .int .i64 dst, .int .i64 kind, .int .u64 n, .int .i64 by1, .int .u64 seq, .int .u64 ack, .int .u64 mask, .slice a m c].toArray 25)).alloc (.cells [Value.bool true].toArray 4) = w2 at *
      generalize w1.heap.size + 1 = F at *
      generalize w1.heap.size = R at *
      clear q0 q1 q2 q3 q4 q5 q6 q7 q8
      have H1' := Lib.hid H1
      have q2 := H1.cell (b := R) (o := 2) (.there (.here _ _)) rfl
      refine ⟨trivial, rfl, calls_in ((hf.out R kind _ w2 H1 q2).mono ?_)⟩
      rintro e w3 ⟨A, B, rfl, H3⟩
      have hH3 := Lib.hid (show SL w3 ((.blk R (zC ((fldN kind).take 0) (gmC ⟨kind, fr, dst, n, by1, seq, ack, mask, data⟩ (.slice a m c))) 25 :: .blk F [.bool true] 4 :: .blk G [Value.int .i64 fr, .int .i64 dst, .int .i64 kind, .int .u64 n, .int .i64 by1, .int .u64 seq, .int .u64 ack, .int .u64 mask, .slice a m c] 25 :: L) ++ [.blk B [fldS A kind] 92, fldP A R]) from
        SL.comm (A := [_, _]) (H3.re (.step (.here _ _) (.step (.here _ _) (.step (.there (.here _ _)) (.same _))))))
      clear H1 H1' H3 q2 hH
      obtain ⟨g, hgd⟩ : ∃ g : Gm, g = ⟨kind, fr, dst, n, by1, seq, ack, mask, data⟩ := ⟨_, rfl⟩
      have hgd' := Lib.hid hgd
      rw [← hgd] at hH3 hbad hgood hok
      obtain ⟨Gp, hGp⟩ : ∃ Gp, Pc.blk G [Value.int .i64 fr, .int .i64 dst, .int .i64 kind, .int .u64 n, .int .i64 by1, .int .u64 seq, .int .u64 ack, .int .u64 mask, .slice a m c] 25 = Gp := ⟨_, rfl⟩
      rw [hGp] at hH3
      have hGp' := Lib.hid hGp
      have hgk : Hid (g.kind = kind) := Lib.hid (by rw [hgd])
      clear hGp hgd
      gi_wp2_with fail
      unfold ptrV
      refine wp_rangeS rfl egF (hg.out A B R) (by intro x hx; obtain ⟨k, _, rfl⟩ := List.mem_map.1 hx; rfl)
        (fun i L' => L' = .blk R (zC ((fldN kind).take i) (gmC g (.slice a m c))) 25 :: .blk F [.bool true] 4 :: Gp :: L ∧ fineK g ((fldN kind).take i))
        (fun cd i L' => cd = .exit 2 ∧ (∃ hi : i < (fldN kind).length, ¬ fvK g ((fldN kind)[i]'hi).1 ≤ ((fldN kind)[i]'hi).2) ∧ L' = .blk R (zC ((fldN kind).take i) (gmC g (.slice a m c))) 25 :: .blk F [.bool false] 4 :: Gp :: L)
        (L0 := .blk R (zC ((fldN kind).take 0) (gmC g (.slice a m c))) 25 :: .blk F [.bool true] 4 :: Gp :: L) ⟨rfl, fun y hy => (by cases hy)⟩ hH3.out ?_ ?_ ?_
      · rintro i hi V ll _ T ⟨rfl, hfine⟩ H
        have hil : i < (fldN kind).length := by rw [fldY_length] at hi; exact hi
        have hx : (fldY R (fldN kind))[i]'hi = #[.agg #[.pointer (some ⟨R, ((fldN kind)[i]'hil).1, none⟩), .int .u64 ((fldN kind)[i]'hil).2]] := by simp [fldY]
        rw [hx]
        obtain ⟨hcl, hq8⟩ := fld_at (g := g) (d := .slice a m c) hil
        have hsn := Lib.hid (zC_snoc (cs := gmC g (.slice a m c)) hil)
        have hfs := Lib.hid (fine_snoc (g := g) hil hfine)
        have hbs := Lib.hid (show ¬ fvK g ((fldN kind)[i]'hil).1 ≤ ((fldN kind)[i]'hil).2 → ∃ hi : i < (fldN kind).length, ¬ fvK g ((fldN kind)[i]'hi).1 ≤ ((fldN kind)[i]'hi).2 from fun h => ⟨hil, h⟩)
        generalize ((fldN kind)[i]'hil).1 = q at *
        generalize ((fldN kind)[i]'hil).2 = M at *
        obtain ⟨x, hx⟩ : ∃ x, fvK g q = x := ⟨_, rfl⟩
        rw [hx] at hcl hfs hbs
        obtain ⟨cs, hcs⟩ : ∃ cs, zC ((fldN kind).take i) (gmC g (.slice a m c)) = cs := ⟨_, rfl⟩
        have hcs' := Lib.hid hcs
        rw [hcs] at hcl hsn H
        have hcl' := Lib.hid hcl
        have hH := Lib.hid H
        clear hx hcs hcl hg hH3 H hfine hf
        gi_wp2_with fail
        have H1 := hH.out.alloc [.pointer (some ⟨R, q, none⟩), .int .u64 M] 60
        generalize V.heap.size = S at *
        refine ⟨.blk S [.pointer (some ⟨R, q, none⟩), .int .u64 M] 60 :: .blk R cs 25 :: .blk F [.bool true] 4 :: Gp :: L, H1, ?_⟩
        clear H1 hH
        intro V2 T2 H
        have s0 := H.cell (b := S) (o := 0) (.here _ _) rfl
        have s1 := H.cell (b := S) (o := 1) (.here _ _) rfl
        have r0 := H.cell (b := R) (o := q) (.there (.here _ _)) hcl'.out
        have rf := H.free (b := R) (.there (.here _ _)) q
        have f0 := H.cell (b := F) (o := 0) (.there (.there (.here _ _))) rfl
        have ff := H.free (b := F) (.there (.there (.here _ _))) 0
        have hH := Lib.hid H
        clear H hcl'
        by_cases hxm : x ≤ M
        · have hxb : decide (M < x) = false := by simp; omega
          have hfs' := Lib.hid (hfs.out hxm)
          have H9 := Lib.hid ((SL.tail (show SL V2 (.blk S [.pointer (some ⟨R, q, none⟩), .int .u64 M] 60 :: .blk R cs 25 :: .blk F [.bool true] 4 :: Gp :: (L ++ ([.blk B [fldS A kind] 92, fldP A R] ++ T2))) from hH.out)).setCell q (.int .u64 0))
          rw [← hsn.out] at H9
          clear hbs hxm hfs
          gi_wp2_with fail
          gi_region_with_o (fail)
          all_goals
            gi_wp2_with fail
            exact ⟨_, ⟨rfl, hfs'.out⟩, H9.out.drew⟩
        · have hxb : decide (M < x) = true := by simp; omega
          have hbs' := Lib.hid (hbs.out (by omega))
          have H9 := Lib.hid (((((SL.tail (show SL V2 (.blk S [.pointer (some ⟨R, q, none⟩), .int .u64 M] 60 :: .blk R cs 25 :: .blk F [.bool true] 4 :: Gp :: (L ++ ([.blk B [fldS A kind] 92, fldP A R] ++ T2))) from hH.out)).pull (.there (.here _ _))).setCell 0 (.bool false))).pull (.there (.here _ _)))
          rw [← hcs'.out] at H9
          clear hbs hxm hfs
          gi_wp2_with fail
          gi_region_with_o (fail)
          all_goals
            gi_wp2_with fail
            exact ⟨_, ⟨rfl, (by obtain ⟨h, h2⟩ := hbs'.out; exact ⟨h, by omega⟩), rfl⟩, H9.out.drew⟩
      · rintro V _ D ⟨rfl, hfine⟩ H
        rw [fldY_length, List.take_length] at hfine H
        have hz := zC_all g (.slice a m c)
        rw [hgk.out] at hz
        rw [hz, ← hGp'.out] at H
        have hlen : Hid (g.data.length = m) := Lib.hid (by rw [hgd'.out]; exact hd'.out)
        have hmay : Hid (formK g → mayK g) := Lib.hid fun h => by
          rw [hgd'.out] at h ⊢
          exact ⟨hR2.out.1, hR2.out.2.1, hR2.out.2.2, hft'.out, h⟩
        have hk13 : 1 ≤ g.kind ∧ g.kind ≤ 3 := by rw [hgk.out]; exact ⟨hk1, hk3⟩
        have hff := fun h0 hd => hgood.out (hmay.out (check_fine hk13 hok.out (by rw [hgk.out]; exact hfine) h0 hd))
        have hfo := fun h0 => hbad.out (fun h => check_or hok.out h0 h.2.2.2.2)
        have hfd := fun hd => hbad.out (fun h => check_data (g := g) hd h.2.2.2.2)
        have hok2 := orK_zero hok.out
        unfold orK at hff hfo hok2
        rw [hlen.out, hgk.out] at hff hfd
        have hz2 : Hid (kind = 2 → (gZ g).seq = 0 ∧ (gZ g).ack = 0 ∧ (gZ g).mask = 0) := Lib.hid fun h => by
          have h' : g.kind = 2 := by rw [hgk.out]; exact h
          simp [gZ, h']
        have hfr : (gZ g).fr = g.fr := rfl
        unfold gmC at H
        generalize (gZ g).seq = sZ at *
        generalize (gZ g).ack = aZ at *
        generalize (gZ g).mask = mZ at *
        have q2 := H.cell (b := G) (o := 2) (.there (.there (.there (.here _ _)))) rfl
        have q8 := H.cell (b := G) (o := 8) (.there (.there (.there (.here _ _)))) rfl
        have r5 := H.cell (b := R) (o := 5) (.there (.here _ _)) rfl
        have r6 := H.cell (b := R) (o := 6) (.there (.here _ _)) rfl
        have r7 := H.cell (b := R) (o := 7) (.there (.here _ _)) rfl
        have r8 := H.cell (b := R) (o := 8) (.there (.here _ _)) rfl
        have rf := H.free (b := R) (.there (.here _ _)) 8
        have f0 := H.cell (b := F) (o := 0) (.there (.there (.here _ _))) rfl
        obtain ⟨O, hO⟩ : ∃ O, bits .or .u64 (bits .or .u64 sZ aZ) mZ = O := ⟨_, rfl⟩
        rw [hO] at hff hfo hok2
        have hff' := Lib.hid hff
        have hfo' := Lib.hid hfo
        have hfd' := Lib.hid hfd
        have hok2' := Lib.hid hok2
        have hH := Lib.hid H
        clear hff hfo hfd hok2 H hz hfine hfr hH3 hg hf
        have hrest : Hid (∀ V' cs, SL V' (.obj D (.deferred (some [])) :: .blk R cs 25 :: .blk F [.bool true] 4 :: .blk G [Value.int .i64 fr, .int .i64 dst, .int .i64 kind, .int .u64 n, .int .i64 by1, .int .u64 seq, .int .u64 ack, .int .u64 mask, .slice a m c] 25 :: (L ++ [.blk B [fldS A kind] 92, fldP A R])) → SL V' (.obj D (.deferred (some [])) :: L)) := Lib.hid fun V' cs h =>
          (h.re (.step (.here _ _) (.drop (.drop (.drop (.same _)))))).perm (List.Perm.cons _ List.perm_append_comm) |>.re (.step (.here _ _) (.drop (.drop (.same _))))
        by_cases hk2 : kind = 2
        · obtain rfl : O = 0 := hok2'.out.2 (hz2.out hk2)
          have hkb : (kind == 2) = true := by simpa using hk2
          by_cases hm9 : m ≤ 900
          · have hE := Lib.hid (hff'.out rfl (.inl ⟨hk2, hm9⟩))
            have hmb : decide ((m : Int) ≤ 900) = true := by simp; omega
            have HH := Lib.hid (hrest.out _ _ (((hH.out.pull (.there (.here _ _))).setCell 8 (.slice none 0 0)).re (.step (.there (.here _ _)) (.step (.here _ _) (.same _)))))
            clear hk2 hm9 hff' hfo' hfd' hok2' hz2 hrest hH
            gi_wp2_with fail
            repeat (first | rw [Exit.noGoto_ret] | gi_step)
            refine leaveS (v := .int .i64 0) HH.out ?_ ?_
            · intro V h
              simp [results, Tryd.results11, go_sem]
            · intro V h
              exact ⟨by rw [hE.out], h⟩
          · have hE := Lib.hid (hfd'.out (fun h => by omega))
            have hmb : decide ((m : Int) ≤ 900) = false := by simp; omega
            have HH := Lib.hid (hrest.out _ _ hH.out)
            clear hk2 hff' hfo' hfd' hok2' hz2 hrest hH
            gi_wp2_with fail
            repeat (first | rw [Exit.noGoto_ret] | gi_step)
            refine leaveS (v := .int .i64 180) HH.out ?_ ?_
            · intro V h
              simp [results, Tryd.results11, go_sem]
            · intro V h
              exact ⟨by rw [hE.out], h⟩
        · have hkb : (kind == 2) = false := by simpa using hk2
          have HH := Lib.hid (hrest.out _ _ hH.out)
          by_cases hO0 : O = 0
          · by_cases hm0 : m = 0
            · have hE := Lib.hid (hff'.out hO0 (.inr hm0))
              have hob : (O != 0) = false := by simp [hO0]
              have hmb : ¬ 0 < m := by omega
              have hmb2 : decide (0 < m) = false := by simp; omega
              clear hk2 hff' hfo' hfd' hok2' hz2 hrest hH hO0 hm0
              gi_wp2_with fail
              repeat (first | rw [Exit.noGoto_ret] | gi_step)
              refine leaveS (v := .int .i64 0) HH.out ?_ ?_
              · intro V h
                simp [results, Tryd.results11, go_sem]
              · intro V h
                exact ⟨by rw [hE.out], h⟩
            · have hE := Lib.hid (hfd'.out (fun h => by omega))
              have hob : (O != 0) = false := by simp [hO0]
              have hmb : 0 < m := by omega
              clear hk2 hff' hfo' hfd' hok2' hz2 hrest hH hO0 hm0
              gi_wp2_with fail
              repeat (first | rw [Exit.noGoto_ret] | gi_step)
              refine leaveS (v := .int .i64 180) HH.out ?_ ?_
              · intro V h
                simp [results, Tryd.results11, go_sem]
              · intro V h
                exact ⟨by rw [hE.out], h⟩
          · have hE := Lib.hid (hfo'.out hO0)
            have hob : (O != 0) = true := by simpa using hO0
            clear hk2 hff' hfo' hfd' hok2' hz2 hrest hH hO0
            gi_wp2_with fail
            repeat (first | rw [Exit.noGoto_ret] | gi_step)
            refine leaveS (v := .int .i64 180) HH.out ?_ ?_
            · intro V h
              simp [results, Tryd.results11, go_sem]
            · intro V h
              exact ⟨by rw [hE.out], h⟩
      · rintro cd i V _ D ⟨rfl, ⟨hi, hm⟩, rfl⟩ H
        have hE := Lib.hid (hbad.out fun h => by
          have hgk' := hgk.out
          subst hgk'
          exact check_most hok.out hi hm h.2.2.2.2)
        have hr8 := zC_data ((fldN kind).take i) (gmC g (.slice a m c)) fun y hy => fldN_lt kind y (List.mem_of_mem_take hy)
        generalize zC ((fldN kind).take i) (gmC g (.slice a m c)) = cs at *
        rw [← hGp'.out] at H
        have q2 := H.cell (b := G) (o := 2) (.there (.there (.there (.here _ _)))) rfl
        have q8 := H.cell (b := G) (o := 8) (.there (.there (.there (.here _ _)))) rfl
        have r8 := H.cell (b := R) (o := 8) (.there (.here _ _)) hr8
        have rf := H.free (b := R) (.there (.here _ _)) 8
        have f0 := H.cell (b := F) (o := 0) (.there (.there (.here _ _))) rfl
        have hH := Lib.hid H
        clear hr8 H hm hH3 hg hf
        have hrest : Hid (∀ V' cs, SL V' (.obj D (.deferred (some [])) :: .blk R cs 25 :: .blk F [.bool false] 4 :: .blk G [Value.int .i64 fr, .int .i64 dst, .int .i64 kind, .int .u64 n, .int .i64 by1, .int .u64 seq, .int .u64 ack, .int .u64 mask, .slice a m c] 25 :: (L ++ [.blk B [fldS A kind] 92, fldP A R])) → SL V' (.obj D (.deferred (some [])) :: L)) := Lib.hid fun V' cs h =>
          (h.re (.step (.here _ _) (.drop (.drop (.drop (.same _)))))).perm (List.Perm.cons _ List.perm_append_comm) |>.re (.step (.here _ _) (.drop (.drop (.same _))))
        by_cases hk2 : kind = 2
        · have hkb : (kind == 2) = true := by simpa using hk2
          by_cases hm9 : m ≤ 900
          · have hmb : decide ((m : Int) ≤ 900) = true := by simp; omega
            have HH := Lib.hid (hrest.out _ _ (((hH.out.pull (.there (.here _ _))).setCell 8 (.slice none 0 0)).re (.step (.there (.here _ _)) (.step (.here _ _) (.same _)))))
            clear hk2 hm9 hrest hH
            gi_wp2_with fail
            repeat (first | rw [Exit.noGoto_ret] | gi_step)
            refine leaveS (v := .int .i64 180) HH.out ?_ ?_
            · intro V h
              simp [results, Tryd.results11, go_sem]
            · intro V h
              exact ⟨by rw [hE.out], h⟩
          · have hmb : decide ((m : Int) ≤ 900) = false := by simp; omega
            have HH := Lib.hid (hrest.out _ _ hH.out)
            clear hk2 hm9 hrest hH
            gi_wp2_with fail
            repeat (first | rw [Exit.noGoto_ret] | gi_step)
            refine leaveS (v := .int .i64 180) HH.out ?_ ?_
            · intro V h
              simp [results, Tryd.results11, go_sem]
            · intro V h
              exact ⟨by rw [hE.out], h⟩
        · have hkb : (kind == 2) = false := by simpa using hk2
          have HH := Lib.hid (hrest.out _ _ hH.out)
          clear hk2 hrest hH
          gi_wp2_with fail
          repeat (first | rw [Exit.noGoto_ret] | gi_step)
          refine leaveS (v := .int .i64 180) HH.out ?_ ?_
          · intro V h
            simp [results, Tryd.results11, go_sem]
          · intro V h
            exact ⟨by rw [hE.out], h⟩
end Go.Proofs.YtilpkfgdlehmpaaDoor
