/- The walk of GramApart. -/
import Derived.Test.YtilpkfgdlehmpaaDoorGmW
import Derived.Test.YtilpkfgdlehmpaaDoorOrderApp
namespace Go.Proofs.YtilpkfgdlehmpaaDoor
open Go.RowKit Go.Shelf
set_option linter.unusedVariables false

theorem lineS_may {g : Gm} (hm : mayK g) : 0 < (lineS g).size := by
  unfold lineS
  rw [if_pos hm]
  have hk : g.kind = 1 ∨ g.kind = 2 ∨ g.kind = 3 := by have := hm.2.2.2.2; unfold formK at this; omega
  unfold lineK nameK
  rcases hk with h | h | h <;> simp [h, ByteArray.size]
theorem lineS_not {g : Gm} (hm : ¬ mayK g) : lineS g = ⟨#[]⟩ := by unfold lineS; rw [if_neg hm]
theorem lineS_len (g : Gm) (ok : GmOk g) : (lineS g).size ≤ 1000 := by
  by_cases hm : mayK g
  · have hk : g.kind = 1 ∨ g.kind = 2 ∨ g.kind = 3 := by have := hm.2.2.2.2; unfold formK at this; omega
    unfold lineS
    rw [if_pos hm]
    have h1 := nameK_len g.kind
    have h2 := joinTail_len (numsK g) (by
      obtain ⟨⟨f1, f2⟩, ⟨d1, d2⟩, ⟨b1, b2⟩, -, hf⟩ := hm
      have n1 := ok.n
      have s1 := ok.seq
      have a1 := ok.ack
      have m1 := ok.mask
      have hd : g.data.length ≤ 900 := by
        unfold formK at hf
        rcases hf with ⟨-, -, -, -, h⟩ | ⟨-, -, -, -, h⟩ | ⟨-, -, -, -, h⟩
        · rw [h]; decide
        · exact h
        · rw [h]; decide
      unfold U64 at n1 s1 a1 m1
      unfold numsK fldU fldN fvK
      rcases hk with h | h | h <;> (intro u hu; simp [h] at hu; omega))
    have h3 : (numsK g).length ≤ 9 := by
      unfold numsK fldU fldN
      rcases hk with h | h | h <;> simp [h]
    simp only [lineK, ByteArray.size, List.size_toArray, List.length_append]
    omega
  · rw [lineS_not hm]; decide
theorem txt_s (g : Gm) (ok : GmOk g) (a : Option Addr) (n c : Nat) {L : List Pc} {w : World} (H : SL w L) (hn : g.data.length = n) (hl : n ≤ 1000) (htab : ∀ V, SL V L → TabU V) :
    Calls Tryd.prog 13 #[gmV g (.slice a n c)] w fun e w' => e = .returned (.string (lineS g)) ∧ SL w' L := by
  subst hn
  exact txt_c g ok a c H hl htab
theorem beq_toList (s t : ByteArray) : (s.toList == t.toList) = decide (s = t) := by
  by_cases h : s = t
  · subst h; simp
  · have h1 : ¬ s.toList = t.toList := fun e => h (toList_inj e)
    simp [h, h1]

set_option maxRecDepth 100000 in
set_option maxHeartbeats 16000000 in
theorem apart_c (g h : Gm) (ok : GmOk g) (oh : GmOk h) (a : Option Addr) (n c : Nat) (b : Option Addr) (m cb : Nat) (w : World) (hgn : g.data.length = n) (hn : n ≤ 1000) (hhm : h.data.length = m) (hm : m ≤ 1000) (hnil : a = none → c = 0) (hnil2 : b = none → cb = 0)
    (hra : RdB w a g.data) (hrb : RdB w b h.data) (tab : TabU w) :
    Calls Tryd.prog 4 #[gmV g (.slice a n c), gmV h (.slice b m cb)] w fun e w' => e = .returned (.bool true) ∧ Kp no w w' := by
  have hmx : Tryd.prog.follows .mixedOrders = true := by kernel_rfl
  have H0 := ((SL.start w).alloc (gmC g (.slice a n c)) 25).alloc (gmC h (.slice b m cb)) 25
  rw [World.size_alloc] at H0
  have hra' : Hid (∀ V M M', SL V M → Pull M (.old w no) M' → RdB V a g.data) := Lib.hid fun V M M' h hp => hra.no (h.kp hp)
  have hrb' : Hid (∀ V M M', SL V M → Pull M (.old w no) M' → RdB V b h.data) := Lib.hid fun V M M' h hp => hrb.no (h.kp hp)
  have htab : Hid (∀ V M M', SL V M → Pull M (.old w no) M' → TabU V) := Lib.hid fun V M M' h hp => tabU_no tab (h.kp hp)
  have hok := Lib.hid ok
  have hoh := Lib.hid oh
  have hgn' := Lib.hid hgn
  have hhm' := Lib.hid hhm
  have hnil' := Lib.hid hnil
  have hnil2' := Lib.hid hnil2
  clear hra hrb tab ok oh hgn hhm hnil hnil2
  have hgv : gmV g (.slice a n c) = .agg #[.int .i64 g.fr, .int .i64 g.dst, .int .i64 g.kind, .int .u64 g.n, .int .i64 g.by', .int .u64 g.seq, .int .u64 g.ack, .int .u64 g.mask, .slice a n c] := rfl
  rw [hgv]
  clear hgv
  have hgv : gmV h (.slice b m cb) = .agg #[.int .i64 h.fr, .int .i64 h.dst, .int .i64 h.kind, .int .u64 h.n, .int .i64 h.by', .int .u64 h.seq, .int .u64 h.ack, .int .u64 h.mask, .slice b m cb] := rfl
  rw [hgv]
  clear hgv
  obtain ⟨q0, q1, q2, q3, q4, q5, q6, q7, q8⟩ := gm_cells (g := g) H0 (.there (.here _ _))
  obtain ⟨y0, y1, y2, y3, y4, y5, y6, y7, y8⟩ := gm_cells (g := h) H0 (.here _ _)
  have hH := Lib.hid H0
  clear H0
  unfold gmC at hH
  go_enter Tryd.func4, Tryd.ntmps4
  go_wp2_with fail
  generalize w.heap.size + 1 = Y at *
  generalize w.heap.size = X at *
  refine (alive_c hH.out (fun V hV => htab.out _ _ _ hV (.there (.there (.here _ _))))).mono ?_
  rintro e w1 ⟨rfl, H⟩
  replace hH := Lib.hid H
  clear H q0 q1 q2 q3 q4 q5 q6 q7 q8 y0 y1 y2 y3 y4 y5 y6 y7 y8
  obtain ⟨q0, q1, q2, q3, q4, q5, q6, q7, q8⟩ := gm_cells (g := g) hH.out (.there (.here _ _))
  obtain ⟨y0, y1, y2, y3, y4, y5, y6, y7, y8⟩ := gm_cells (g := h) hH.out (.here _ _)
  go_wp2_with fail
  refine (great_s g a n c hH.out hn).mono ?_
  rintro e w2 ⟨rfl, H⟩
  replace hH := Lib.hid H
  clear H q0 q1 q2 q3 q4 q5 q6 q7 q8 y0 y1 y2 y3 y4 y5 y6 y7 y8
  obtain ⟨q0, q1, q2, q3, q4, q5, q6, q7, q8⟩ := gm_cells (g := g) hH.out (.there (.here _ _))
  obtain ⟨y0, y1, y2, y3, y4, y5, y6, y7, y8⟩ := gm_cells (g := h) hH.out (.here _ _)
  go_wp2_with fail
  refine (great_s h b m cb hH.out hm).mono ?_
  rintro e w3 ⟨rfl, H⟩
  replace hH := Lib.hid H
  clear H q0 q1 q2 q3 q4 q5 q6 q7 q8 y0 y1 y2 y3 y4 y5 y6 y7 y8
  obtain ⟨q0, q1, q2, q3, q4, q5, q6, q7, q8⟩ := gm_cells (g := g) hH.out (.there (.here _ _))
  obtain ⟨y0, y1, y2, y3, y4, y5, y6, y7, y8⟩ := gm_cells (g := h) hH.out (.here _ _)
  go_wp2_with fail
  have hyes : Hid (∀ (g : Gm) (ok : GmOk g) (a : Option Addr) (n c : Nat) (L : List Pc) (w : World) (H : SL w L) (hn : g.data.length = n) (hnil : a = none → c = 0) (hl : n ≤ 1000) (hr : ∀ V, SL V L → RdB V a g.data),
    Calls Tryd.prog 9 #[gmV g (.slice a n c)] w fun e w' => ∃ a' c' N E, e = .returned (.tuple #[.slice a' N c', .int .i64 E]) ∧ (encR g).1.length = N ∧ (encR g).2 = E ∧ SL w' (.own 5 1 (.slice a' N c') N (bv (encR g).1) :: L)) := Lib.hid fun g ok a n c L w H hn hnil hl hr => by
    subst hn
    exact (enc_c g ok a c H hnil hl hr).mono fun e w' ⟨a', c', h1, h2⟩ => ⟨a', c', _, _, h1, rfl, rfl, h2⟩
  refine (hyes.out g hok.out a n c _ _ hH.out hgn'.out hnil'.out hn (fun V hV => hra'.out _ _ _ hV (.there (.there (.here _ _))))).mono ?_
  rintro e w4 ⟨ea, ec, N, E, rfl, hN, hE, H⟩
  replace hH := Lib.hid H
  have hN' := Lib.hid hN
  have hE' := Lib.hid hE
  clear H q0 q1 q2 q3 q4 q5 q6 q7 q8 y0 y1 y2 y3 y4 y5 y6 y7 y8 hN hE
  obtain ⟨q0, q1, q2, q3, q4, q5, q6, q7, q8⟩ := gm_cells (g := g) hH.out (.there (.there (.here _ _)))
  obtain ⟨y0, y1, y2, y3, y4, y5, y6, y7, y8⟩ := gm_cells (g := h) hH.out (.there (.here _ _))
  go_wp2_with fail
  refine (hyes.out h hoh.out b m cb _ _ hH.out hhm'.out hnil2'.out hm (fun V hV => hrb'.out _ _ _ hV (.there (.there (.there (.here _ _)))))).mono ?_
  rintro e w5 ⟨fa, fc, N2, E2, rfl, hN2, hE2, H⟩
  replace hH := Lib.hid H
  have hN2' := Lib.hid hN2
  have hE2' := Lib.hid hE2
  clear H q0 q1 q2 q3 q4 q5 q6 q7 q8 y0 y1 y2 y3 y4 y5 y6 y7 y8 hN2 hE2 hyes
  go_wp2_with fail
  obtain ⟨D, hD⟩ : ∃ D, decide (g = h) = D := ⟨_, rfl⟩
  have hD2 : decide (h = g) = D := by rw [← hD]; exact decide_eq_decide.2 eq_comm
  have hD' := Lib.hid hD
  have hD2' := Lib.hid hD2
  clear hD hD2
  refine wp_region_held_drew (S := (fun W => (W.cell? ⟨X, 0, none⟩ = some (Value.int .i64 g.fr) ∧ W.cell? ⟨X, 1, none⟩ = some (Value.int .i64 g.dst) ∧ W.cell? ⟨X, 2, none⟩ = some (Value.int .i64 g.kind) ∧ W.cell? ⟨X, 3, none⟩ = some (Value.int .u64 g.n) ∧ W.cell? ⟨X, 4, none⟩ = some (Value.int .i64 g.by') ∧ W.cell? ⟨X, 5, none⟩ = some (Value.int .u64 g.seq) ∧ W.cell? ⟨X, 6, none⟩ = some (Value.int .u64 g.ack) ∧ W.cell? ⟨X, 7, none⟩ = some (Value.int .u64 g.mask) ∧ W.cell? ⟨X, 8, none⟩ = some (.slice a n c)) ∧ (W.cell? ⟨Y, 0, none⟩ = some (Value.int .i64 h.fr) ∧ W.cell? ⟨Y, 1, none⟩ = some (Value.int .i64 h.dst) ∧ W.cell? ⟨Y, 2, none⟩ = some (Value.int .i64 h.kind) ∧ W.cell? ⟨Y, 3, none⟩ = some (Value.int .u64 h.n) ∧ W.cell? ⟨Y, 4, none⟩ = some (Value.int .i64 h.by') ∧ W.cell? ⟨Y, 5, none⟩ = some (Value.int .u64 h.seq) ∧ W.cell? ⟨Y, 6, none⟩ = some (Value.int .u64 h.ack) ∧ W.cell? ⟨Y, 7, none⟩ = some (Value.int .u64 h.mask) ∧ W.cell? ⟨Y, 8, none⟩ = some (.slice b m cb)))) (by kernel_rfl) ?_ (fun hHeld => ?_)
  · have H := hH.out.drew
    exact ⟨gm_cells (g := g) H (.there (.there (.there (.here _ _)))), gm_cells (g := h) H (.there (.there (.here _ _)))⟩
  have H := hH.out.drew
  generalize World.drew w5 = w6 at *
  clear hH
  refine takeL (i := 0) rfl (by kernel_rfl) (by kernel_rfl) (by kernel_rfl) (fun _ _ _ _ h => h) hHeld ?_ (Or.inl ⟨by rfl, ?_⟩) ?_
  rotate_left
  · intro W hW
    (try dsimp only at hW)
    first | (go_simp; done) | (go_simp; with_reducible rfl)
  ((try simp only [Act.put]); (try simp only [List.setIfInBounds_toArray]); (try simp only [List.set_cons_succ]); (try simp only [List.set_cons_zero]))
  refine takeL (i := 1) rfl (by kernel_rfl) (by kernel_rfl) (by kernel_rfl) (fun _ _ _ _ h => h) hHeld ?_ (Or.inl ⟨by rfl, ?_⟩) ?_
  rotate_left
  · intro W hW
    (try dsimp only at hW)
    first | (go_simp; done) | (go_simp; with_reducible rfl)
  ((try simp only [Act.put]); (try simp only [List.setIfInBounds_toArray]); (try simp only [List.set_cons_succ]); (try simp only [List.set_cons_zero]))
  refine callL (i := 2) rfl (by kernel_rfl) (fun K hK => ?_)
  rw [if_pos (by rfl)]
  go_simp
  refine (same_s g g a a n c n c H hgn'.out hgn'.out hn hok.out.data hok.out.data (fun V hV => hra'.out _ _ _ hV (.there (.there (.there (.there (.here _ _)))))) (fun V hV => hra'.out _ _ _ hV (.there (.there (.there (.there (.here _ _)))))) true (by simp)).mono ?_
  rintro e w7 ⟨rfl, H7⟩
  have H' := H7
  clear H hHeld
  clear H7
  have H := H'
  clear H'
  refine hK.out _ _ ?_ (fun hHeld => ?_)
  · exact ⟨gm_cells (g := g) H (.there (.there (.there (.here _ _)))), gm_cells (g := h) H (.there (.there (.here _ _)))⟩
  clear hK K
  ((try simp only [Act.put]); (try simp only [List.setIfInBounds_toArray]); (try simp only [List.set_cons_succ]); (try simp only [List.set_cons_zero]))
  refine takeL (i := 3) rfl (by kernel_rfl) (by kernel_rfl) (by kernel_rfl) (fun _ _ _ _ h => h) hHeld ?_ (Or.inl ⟨by rfl, ?_⟩) ?_
  rotate_left
  · intro W hW
    (try dsimp only at hW)
    first | (go_simp; done) | (go_simp; with_reducible rfl)
  ((try simp only [Act.put]); (try simp only [List.setIfInBounds_toArray]); (try simp only [List.set_cons_succ]); (try simp only [List.set_cons_zero]))
  refine takeL (i := 4) rfl (by kernel_rfl) (by kernel_rfl) (by kernel_rfl) (fun _ _ _ _ h => h) hHeld ?_ (Or.inl ⟨by rfl, ?_⟩) ?_
  rotate_left
  · intro W hW
    (try dsimp only at hW)
    first | (go_simp; done) | (go_simp; with_reducible rfl)
  ((try simp only [Act.put]); (try simp only [List.setIfInBounds_toArray]); (try simp only [List.set_cons_succ]); (try simp only [List.set_cons_zero]))
  refine takeL (i := 5) rfl (by kernel_rfl) (by kernel_rfl) (by kernel_rfl) (fun _ _ _ _ h => h) hHeld ?_ (Or.inl ⟨by rfl, ?_⟩) ?_
  rotate_left
  · intro W hW
    (try dsimp only at hW)
    first | (go_simp; done) | (go_simp; with_reducible rfl)
  ((try simp only [Act.put]); (try simp only [List.setIfInBounds_toArray]); (try simp only [List.set_cons_succ]); (try simp only [List.set_cons_zero]))
  refine takeL (i := 6) rfl (by kernel_rfl) (by kernel_rfl) (by kernel_rfl) (fun _ _ _ _ h => h) hHeld ?_ (Or.inl ⟨by rfl, ?_⟩) ?_
  rotate_left
  · intro W hW
    (try dsimp only at hW)
    first | (go_simp; done) | (go_simp; with_reducible rfl)
  ((try simp only [Act.put]); (try simp only [List.setIfInBounds_toArray]); (try simp only [List.set_cons_succ]); (try simp only [List.set_cons_zero]))
  refine takeL (i := 8) rfl (by kernel_rfl) (by kernel_rfl) (by kernel_rfl) (fun _ _ _ _ h => h) hHeld ?_ (Or.inl ⟨by rfl, ?_⟩) ?_
  rotate_left
  · intro W hW
    (try dsimp only at hW)
    first | (go_simp; done) | (go_simp; with_reducible rfl)
  ((try simp only [Act.put]); (try simp only [List.setIfInBounds_toArray]); (try simp only [List.set_cons_succ]); (try simp only [List.set_cons_zero]))
  refine takeL (i := 9) rfl (by kernel_rfl) (by kernel_rfl) (by kernel_rfl) (fun _ _ _ _ h => h) hHeld ?_ (Or.inl ⟨by rfl, ?_⟩) ?_
  rotate_left
  · intro W hW
    (try dsimp only at hW)
    first | (go_simp; done) | (go_simp; with_reducible rfl)
  ((try simp only [Act.put]); (try simp only [List.setIfInBounds_toArray]); (try simp only [List.set_cons_succ]); (try simp only [List.set_cons_zero]))
  refine callL (i := 7) rfl (by kernel_rfl) (fun K hK => ?_)
  rw [if_pos (by rfl)]
  go_simp
  refine (same_s g h a b n c m cb H hgn'.out hhm'.out hn hok.out.data hoh.out.data (fun V hV => hra'.out _ _ _ hV (.there (.there (.there (.there (.here _ _)))))) (fun V hV => hrb'.out _ _ _ hV (.there (.there (.there (.there (.here _ _)))))) D hD'.out).mono ?_
  rintro e w8 ⟨rfl, H8⟩
  have H' := H8
  clear H hHeld
  clear H8
  have H := H'
  clear H'
  refine hK.out _ _ ?_ (fun hHeld => ?_)
  · exact ⟨gm_cells (g := g) H (.there (.there (.there (.here _ _)))), gm_cells (g := h) H (.there (.there (.here _ _)))⟩
  clear hK K
  ((try simp only [Act.put]); (try simp only [List.setIfInBounds_toArray]); (try simp only [List.set_cons_succ]); (try simp only [List.set_cons_zero]))
  refine callL (i := 10) rfl (by kernel_rfl) (fun K hK => ?_)
  rw [if_pos (by rfl)]
  go_simp
  refine (same_s h g b a m cb n c H hhm'.out hgn'.out hm hoh.out.data hok.out.data (fun V hV => hrb'.out _ _ _ hV (.there (.there (.there (.there (.here _ _)))))) (fun V hV => hra'.out _ _ _ hV (.there (.there (.there (.there (.here _ _)))))) D hD2'.out).mono ?_
  rintro e w9 ⟨rfl, H9⟩
  have H' := H9
  clear H hHeld
  clear H9
  have H := H'
  clear H'
  refine hK.out _ _ ?_ (fun hHeld => ?_)
  · exact ⟨gm_cells (g := g) H (.there (.there (.there (.here _ _)))), gm_cells (g := h) H (.there (.there (.here _ _)))⟩
  clear hK K
  ((try simp only [Act.put]); (try simp only [List.setIfInBounds_toArray]); (try simp only [List.set_cons_succ]); (try simp only [List.set_cons_zero]))
  refine takeL (i := 11) rfl (by kernel_rfl) (by kernel_rfl) (by kernel_rfl) (fun _ _ _ _ h => h) hHeld ?_ (Or.inl ⟨by rfl, ?_⟩) ?_
  rotate_left
  · intro W hW
    (try dsimp only at hW)
    first | (go_simp; done) | (go_simp; with_reducible rfl)
  ((try simp only [Act.put]); (try simp only [List.setIfInBounds_toArray]); (try simp only [List.set_cons_succ]); (try simp only [List.set_cons_zero]))
  refine takeL (i := 12) rfl (by kernel_rfl) (by kernel_rfl) (by kernel_rfl) (fun _ _ _ _ h => h) hHeld ?_ (Or.inl ⟨by rfl, ?_⟩) ?_
  rotate_left
  · intro W hW
    (try dsimp only at hW)
    first | (go_simp; done) | (go_simp; with_reducible rfl)
  ((try simp only [Act.put]); (try simp only [List.setIfInBounds_toArray]); (try simp only [List.set_cons_succ]); (try simp only [List.set_cons_zero]))
  refine wpAnyH_done (by kernel_rfl) ?_ _
  have hH := Lib.hid H
  clear H hHeld
  obtain ⟨q0, q1, q2, q3, q4, q5, q6, q7, q8⟩ := gm_cells (g := g) hH.out (.there (.there (.there (.here _ _))))
  obtain ⟨y0, y1, y2, y3, y4, y5, y6, y7, y8⟩ := gm_cells (g := h) hH.out (.there (.there (.here _ _)))
  go_wp2_with fail
  refine (txt_s g hok.out a n c hH.out hgn'.out hn (fun V hV => htab.out _ _ _ hV (.there (.there (.there (.there (.here _ _))))))).mono ?_
  rintro e w10 ⟨rfl, H⟩
  clear hH q0 q1 q2 q3 q4 q5 q6 q7 q8 y0 y1 y2 y3 y4 y5 y6 y7 y8
  have hH := Lib.hid H
  clear H
  have hl1 := lineS_len g hok.out
  by_cases mg : mayK g
  · have hz := lineS_may mg
    have hEg : E = 0 := by rw [← hE'.out]; unfold encR; rw [if_pos mg]
    subst hEg
    generalize hT : lineS g = T1 at *
    by_cases mh : mayK h
    · have hEh : E2 = 0 := by rw [← hE2'.out]; unfold encR; rw [if_pos mh]
      subst hEh
      have hmg := Lib.hid mg
      have hmh := Lib.hid mh
      have hT1 := Lib.hid hT
      clear mg mh hT
      have hIe : (encR g).1 = sealI (encI g) := by unfold encR; rw [if_pos hmg.out]
      have hIe2 : (encR h).1 = sealI (encI h) := by unfold encR; rw [if_pos hmh.out]
      obtain ⟨A, hA⟩ : ∃ A, strK (encR g).1 = A := ⟨_, rfl⟩
      obtain ⟨B, hB⟩ : ∃ B, strK (encR h).1 = B := ⟨_, rfl⟩
      have hAB : (A.toList == B.toList) = D := by
        rw [beq_toList, ← hD'.out]
        refine decide_eq_decide.2 ⟨fun e => ?_, fun e => ?_⟩
        · rw [← hA, ← hB] at e
          have e2 := strK_inj (encR_bytes g) (encR_bytes h) e
          rw [hIe, hIe2] at e2
          exact enc_inj hok.out hoh.out hmg.out hmh.out e2
        · rw [← hA, ← hB, e]
      have hcva : Hid (∀ W M M', SL W M → Pull M (.own 5 1 (.slice ea N ec) N (bv (encR g).1)) M' → (convert 23 9 (.slice ea N ec)).run Tryd.prog W = .ok (.string A) W) := Lib.hid fun W M M' HW hp => by rw [← hA]; exact run_strK hN'.out (own_facts HW hp).2.2.2 (encR_bytes g)
      have hcvb : Hid (∀ W M M', SL W M → Pull M (.own 5 1 (.slice fa N2 fc) N2 (bv (encR h).1)) M' → (convert 23 9 (.slice fa N2 fc)).run Tryd.prog W = .ok (.string B) W) := Lib.hid fun W M M' HW hp => by rw [← hB]; exact run_strK hN2'.out (own_facts HW hp).2.2.2 (encR_bytes h)
      obtain ⟨T2, hT2⟩ : ∃ T2, lineS h = T2 := ⟨_, rfl⟩
      have hgT : Hid (D = true → T1 = T2) := Lib.hid fun e => by
        rw [← hD'.out] at e
        rw [← hT1.out, ← hT2, of_decide_eq_true e]
      have htx : Hid (∀ V M, SL V M → (∀ V, SL V M → TabU V) → Calls Tryd.prog 13 #[gmV h (.slice b m cb)] V fun e w' => e = .returned (.string T2) ∧ SL w' M) := Lib.hid fun V M hV ht => by
        rw [← hT2]
        exact txt_s h hoh.out b m cb hV hhm'.out hm ht
      clear hIe hIe2 hA hB hT2
      go_wp2_with fail
      by_cases hTT : T1 = T2
      · have hTb : (T1.toList == T2.toList) = true := by rw [hTT]; simp
        clear hTT
        cases D with
        | true =>
          refine wp_region_held_drew (S := (fun W => (W.cell? ⟨X, 0, none⟩ = some (Value.int .i64 g.fr) ∧ W.cell? ⟨X, 1, none⟩ = some (Value.int .i64 g.dst) ∧ W.cell? ⟨X, 2, none⟩ = some (Value.int .i64 g.kind) ∧ W.cell? ⟨X, 3, none⟩ = some (Value.int .u64 g.n) ∧ W.cell? ⟨X, 4, none⟩ = some (Value.int .i64 g.by') ∧ W.cell? ⟨X, 5, none⟩ = some (Value.int .u64 g.seq) ∧ W.cell? ⟨X, 6, none⟩ = some (Value.int .u64 g.ack) ∧ W.cell? ⟨X, 7, none⟩ = some (Value.int .u64 g.mask) ∧ W.cell? ⟨X, 8, none⟩ = some (.slice a n c)) ∧ (W.cell? ⟨Y, 0, none⟩ = some (Value.int .i64 h.fr) ∧ W.cell? ⟨Y, 1, none⟩ = some (Value.int .i64 h.dst) ∧ W.cell? ⟨Y, 2, none⟩ = some (Value.int .i64 h.kind) ∧ W.cell? ⟨Y, 3, none⟩ = some (Value.int .u64 h.n) ∧ W.cell? ⟨Y, 4, none⟩ = some (Value.int .i64 h.by') ∧ W.cell? ⟨Y, 5, none⟩ = some (Value.int .u64 h.seq) ∧ W.cell? ⟨Y, 6, none⟩ = some (Value.int .u64 h.ack) ∧ W.cell? ⟨Y, 7, none⟩ = some (Value.int .u64 h.mask) ∧ W.cell? ⟨Y, 8, none⟩ = some (.slice b m cb)) ∧ (convert 23 9 (.slice ea N ec)).run Tryd.prog W = .ok (.string A) W ∧ (convert 23 9 (.slice fa N2 fc)).run Tryd.prog W = .ok (.string B) W)) (by kernel_rfl) ?_ (fun hHeld => ?_)
          · have H := hH.out.drew
            exact ⟨gm_cells (g := g) H (.there (.there (.there (.here _ _)))), gm_cells (g := h) H (.there (.there (.here _ _))), hcva.out _ _ _ H (.there (.here _ _)), hcvb.out _ _ _ H (.here _ _)⟩
          have H := hH.out.drew
          generalize World.drew w10 = w11 at *
          clear hH
          refine takeL (i := 0) rfl (by kernel_rfl) (by kernel_rfl) (by kernel_rfl) (fun _ _ _ _ h => h) hHeld ?_ (Or.inl ⟨by rfl, ?_⟩) ?_
          rotate_left
          · intro W hW
            (try dsimp only at hW)
            first | (go_simp; done) | (go_simp; with_reducible rfl)
          ((try simp only [Act.put]); (try simp only [List.setIfInBounds_toArray]); (try simp only [List.set_cons_succ]); (try simp only [List.set_cons_zero]))
          refine takeL (i := 1) rfl (by kernel_rfl) (by kernel_rfl) (by kernel_rfl) (fun _ _ _ _ h => h) hHeld ?_ (Or.inl ⟨by rfl, ?_⟩) ?_
          rotate_left
          · intro W hW
            (try dsimp only at hW)
            first | (go_simp; done) | (go_simp; with_reducible rfl)
          ((try simp only [Act.put]); (try simp only [List.setIfInBounds_toArray]); (try simp only [List.set_cons_succ]); (try simp only [List.set_cons_zero]))
          refine takeL (i := 2) rfl (by kernel_rfl) (by kernel_rfl) (by kernel_rfl) (fun _ _ _ _ h => h) hHeld ?_ (Or.inl ⟨by rfl, ?_⟩) ?_
          rotate_left
          · intro W hW
            (try dsimp only at hW)
            first | (go_simp; done) | (go_simp; with_reducible rfl)
          ((try simp only [Act.put]); (try simp only [List.setIfInBounds_toArray]); (try simp only [List.set_cons_succ]); (try simp only [List.set_cons_zero]))
          refine takeL (i := 3) rfl (by kernel_rfl) (by kernel_rfl) (by kernel_rfl) (fun _ _ _ _ h => h) hHeld ?_ (Or.inl ⟨by rfl, ?_⟩) ?_
          rotate_left
          · intro W hW
            (try dsimp only at hW)
            first | (go_simp; done) | (go_simp; with_reducible rfl)
          ((try simp only [Act.put]); (try simp only [List.setIfInBounds_toArray]); (try simp only [List.set_cons_succ]); (try simp only [List.set_cons_zero]))
          refine takeL (i := 4) rfl (by kernel_rfl) (by kernel_rfl) (by kernel_rfl) (fun _ _ _ _ h => h) hHeld ?_ (Or.inl ⟨by rfl, ?_⟩) ?_
          rotate_left
          · intro W hW
            (try dsimp only at hW)
            first | (go_simp; done) | (go_simp; with_reducible rfl)
          ((try simp only [Act.put]); (try simp only [List.setIfInBounds_toArray]); (try simp only [List.set_cons_succ]); (try simp only [List.set_cons_zero]))
          refine takeL (i := 5) rfl (by kernel_rfl) (by kernel_rfl) (by kernel_rfl) (fun _ _ _ _ h => h) hHeld ?_ (Or.inl ⟨by rfl, ?_⟩) ?_
          rotate_left
          · intro W hW
            (try dsimp only at hW)
            first | (go_simp; done) | (go_simp; with_reducible rfl)
          ((try simp only [Act.put]); (try simp only [List.setIfInBounds_toArray]); (try simp only [List.set_cons_succ]); (try simp only [List.set_cons_zero]))
          refine takeL (i := 6) rfl (by kernel_rfl) (by kernel_rfl) (by kernel_rfl) (fun _ _ _ _ h => h) hHeld ?_ (Or.inl ⟨by rfl, ?_⟩) ?_
          rotate_left
          · intro W hW
            (try dsimp only at hW)
            first | (go_simp; done) | (go_simp; with_reducible rfl)
          ((try simp only [Act.put]); (try simp only [List.setIfInBounds_toArray]); (try simp only [List.set_cons_succ]); (try simp only [List.set_cons_zero]))
          refine takeL (i := 7) rfl (by kernel_rfl) (by kernel_rfl) (by kernel_rfl) (fun _ _ _ _ h => h) hHeld ?_ (Or.inl ⟨by rfl, ?_⟩) ?_
          rotate_left
          · intro W hW
            (try dsimp only at hW)
            first | (go_simp; done) | (go_simp; with_reducible rfl)
          ((try simp only [Act.put]); (try simp only [List.setIfInBounds_toArray]); (try simp only [List.set_cons_succ]); (try simp only [List.set_cons_zero]))
          refine takeL (i := 8) rfl (by kernel_rfl) (by kernel_rfl) (by kernel_rfl) (fun _ _ _ _ h => h) hHeld ?_ (Or.inl ⟨by rfl, ?_⟩) ?_
          rotate_left
          · intro W hW
            (try dsimp only at hW)
            first | (go_simp; done) | (go_simp; with_reducible rfl)
          ((try simp only [Act.put]); (try simp only [List.setIfInBounds_toArray]); (try simp only [List.set_cons_succ]); (try simp only [List.set_cons_zero]))
          refine callL (i := 9) rfl (by kernel_rfl) (fun K hK => ?_)
          rw [if_pos (by rfl)]
          go_simp
          refine (same_s g h a b n c m cb H hgn'.out hhm'.out hn hok.out.data hoh.out.data (fun V hV => hra'.out _ _ _ hV (.there (.there (.there (.there (.here _ _)))))) (fun V hV => hrb'.out _ _ _ hV (.there (.there (.there (.there (.here _ _)))))) true hD'.out).mono ?_
          rintro e w12 ⟨rfl, H12⟩
          have H' := H12
          clear H hHeld
          clear H12
          have H := H'
          clear H'
          refine hK.out _ _ ?_ (fun hHeld => ?_)
          · exact ⟨gm_cells (g := g) H (.there (.there (.there (.here _ _)))), gm_cells (g := h) H (.there (.there (.here _ _))), hcva.out _ _ _ H (.there (.here _ _)), hcvb.out _ _ _ H (.here _ _)⟩
          clear hK K
          ((try simp only [Act.put]); (try simp only [List.setIfInBounds_toArray]); (try simp only [List.set_cons_succ]); (try simp only [List.set_cons_zero]))
          refine takeL (i := 10) rfl (by kernel_rfl) (by kernel_rfl) (by kernel_rfl) (fun _ _ _ _ h => h) hHeld ?_ (Or.inl ⟨by rfl, ?_⟩) ?_
          rotate_left
          · intro W hW
            (try dsimp only at hW)
            first | (go_simp; done) | (go_simp; with_reducible rfl)
          ((try simp only [Act.put]); (try simp only [List.setIfInBounds_toArray]); (try simp only [List.set_cons_succ]); (try simp only [List.set_cons_zero]))
          refine takeL (i := 11) rfl (by kernel_rfl) (by kernel_rfl) (by kernel_rfl) (fun _ _ _ _ h => h) hHeld ?_ (Or.inl ⟨by rfl, ?_⟩) ?_
          rotate_left
          · intro W hW
            (try dsimp only at hW)
            first | (go_simp; done) | (go_simp; with_reducible rfl)
          ((try simp only [Act.put]); (try simp only [List.setIfInBounds_toArray]); (try simp only [List.set_cons_succ]); (try simp only [List.set_cons_zero]))
          refine takeL (i := 12) rfl (by kernel_rfl) (by kernel_rfl) (by kernel_rfl) (fun _ _ _ _ h => h) hHeld ?_ (Or.inl ⟨by rfl, ?_⟩) ?_
          rotate_left
          · intro W hW
            (try dsimp only at hW)
            first | (go_simp; done) | (go_simp; with_reducible rfl)
          ((try simp only [Act.put]); (try simp only [List.setIfInBounds_toArray]); (try simp only [List.set_cons_succ]); (try simp only [List.set_cons_zero]))
          refine takeL (i := 13) rfl (by kernel_rfl) (by kernel_rfl) (by kernel_rfl) (fun _ _ _ _ h => h) hHeld ?_ (Or.inl ⟨by rfl, ?_⟩) ?_
          rotate_left
          · intro W hW
            (try dsimp only at hW)
            first | (go_simp; done) | (go_simp; with_reducible rfl)
          ((try simp only [Act.put]); (try simp only [List.setIfInBounds_toArray]); (try simp only [List.set_cons_succ]); (try simp only [List.set_cons_zero]))
          refine takeL (i := 14) rfl (by kernel_rfl) (by kernel_rfl) (by kernel_rfl) (fun _ _ _ _ h => h) hHeld ?_ (Or.inl ⟨by rfl, ?_⟩) ?_
          rotate_left
          · intro W hW
            (try dsimp only at hW)
            first | (go_simp; done) | (go_simp; with_reducible rfl)
          ((try simp only [Act.put]); (try simp only [List.setIfInBounds_toArray]); (try simp only [List.set_cons_succ]); (try simp only [List.set_cons_zero]))
          refine callL (i := 15) rfl (by kernel_rfl) (fun K hK => ?_)
          rw [if_pos (by rfl)]
          go_simp
          refine (htx.out _ _ H (fun V hV => htab.out _ _ _ hV (.there (.there (.there (.there (.here _ _))))))).mono ?_
          rintro e w13 ⟨rfl, H13⟩
          have H' := H13
          clear H hHeld
          clear H13
          have H := H'
          clear H'
          refine hK.out _ _ ?_ (fun hHeld => ?_)
          · exact ⟨gm_cells (g := g) H (.there (.there (.there (.here _ _)))), gm_cells (g := h) H (.there (.there (.here _ _))), hcva.out _ _ _ H (.there (.here _ _)), hcvb.out _ _ _ H (.here _ _)⟩
          clear hK K
          ((try simp only [Act.put]); (try simp only [List.setIfInBounds_toArray]); (try simp only [List.set_cons_succ]); (try simp only [List.set_cons_zero]))
          refine takeL (i := 16) rfl (by kernel_rfl) (by kernel_rfl) (by kernel_rfl) (fun _ _ _ _ h => h) hHeld ?_ (Or.inl ⟨by rfl, ?_⟩) ?_
          rotate_left
          · intro W hW
            (try dsimp only at hW)
            first | (go_simp; done) | (go_simp; with_reducible rfl)
          ((try simp only [Act.put]); (try simp only [List.setIfInBounds_toArray]); (try simp only [List.set_cons_succ]); (try simp only [List.set_cons_zero]))
          refine takeL (i := 17) rfl (by kernel_rfl) (by kernel_rfl) (by kernel_rfl) (fun _ _ _ _ h => h) hHeld ?_ (Or.inl ⟨by rfl, ?_⟩) ?_
          rotate_left
          · intro W hW
            (try dsimp only at hW)
            first | (go_simp; done) | (go_simp; with_reducible rfl)
          ((try simp only [Act.put]); (try simp only [List.setIfInBounds_toArray]); (try simp only [List.set_cons_succ]); (try simp only [List.set_cons_zero]))
          refine takeL (i := 18) rfl (by kernel_rfl) (by kernel_rfl) (by kernel_rfl) (fun _ _ _ _ h => h) hHeld undef (Or.inr ⟨by rfl, rfl⟩) ?_
          ((try simp only [Act.put]); (try simp only [List.setIfInBounds_toArray]); (try simp only [List.set_cons_succ]); (try simp only [List.set_cons_zero]))
          refine takeL (i := 19) rfl (by kernel_rfl) (by kernel_rfl) (by kernel_rfl) (fun _ _ _ _ h => h) hHeld undef (Or.inr ⟨by rfl, rfl⟩) ?_
          ((try simp only [Act.put]); (try simp only [List.setIfInBounds_toArray]); (try simp only [List.set_cons_succ]); (try simp only [List.set_cons_zero]))
          refine takeL (i := 20) rfl (by kernel_rfl) (by kernel_rfl) (by kernel_rfl) (fun _ _ _ _ h => h) hHeld undef (Or.inr ⟨by rfl, rfl⟩) ?_
          ((try simp only [Act.put]); (try simp only [List.setIfInBounds_toArray]); (try simp only [List.set_cons_succ]); (try simp only [List.set_cons_zero]))
          refine takeL (i := 21) rfl (by kernel_rfl) (by kernel_rfl) (by kernel_rfl) (fun _ _ _ _ h => h) hHeld undef (Or.inr ⟨by rfl, rfl⟩) ?_
          ((try simp only [Act.put]); (try simp only [List.setIfInBounds_toArray]); (try simp only [List.set_cons_succ]); (try simp only [List.set_cons_zero]))
          refine takeL (i := 22) rfl (by kernel_rfl) (by kernel_rfl) (by kernel_rfl) (fun _ _ _ _ h => h) hHeld undef (Or.inr ⟨by rfl, rfl⟩) ?_
          ((try simp only [Act.put]); (try simp only [List.setIfInBounds_toArray]); (try simp only [List.set_cons_succ]); (try simp only [List.set_cons_zero]))
          refine takeL (i := 23) rfl (by kernel_rfl) (by kernel_rfl) (by kernel_rfl) (fun _ _ _ _ h => h) hHeld ?_ (Or.inl ⟨by rfl, ?_⟩) ?_
          rotate_left
          · intro W hW
            (try dsimp only at hW)
            first | (go_simp; done) | (go_simp; with_reducible rfl)
          ((try simp only [Act.put]); (try simp only [List.setIfInBounds_toArray]); (try simp only [List.set_cons_succ]); (try simp only [List.set_cons_zero]))
          refine takeL (i := 24) rfl (by kernel_rfl) (by kernel_rfl) (by kernel_rfl) (fun _ _ _ _ h => h) hHeld ?_ (Or.inl ⟨by rfl, ?_⟩) ?_
          rotate_left
          · intro W hW
            (try dsimp only at hW)
            first | (go_simp; done) | (go_simp; with_reducible rfl)
          ((try simp only [Act.put]); (try simp only [List.setIfInBounds_toArray]); (try simp only [List.set_cons_succ]); (try simp only [List.set_cons_zero]))
          refine takeL (i := 25) rfl (by kernel_rfl) (by kernel_rfl) (by kernel_rfl) (fun _ _ _ _ h => h) hHeld ?_ (Or.inl ⟨by rfl, ?_⟩) ?_
          rotate_left
          · intro W hW
            (try dsimp only at hW)
            first | (go_simp; done) | (go_simp; with_reducible rfl)
          ((try simp only [Act.put]); (try simp only [List.setIfInBounds_toArray]); (try simp only [List.set_cons_succ]); (try simp only [List.set_cons_zero]))
          refine wpAnyH_done (by kernel_rfl) ?_ _
          have hH := Lib.hid H
          clear H hHeld
          go_wp2_with fail
          go_ret
          exact ⟨rfl, hH.out.kp (.there (.there (.there (.there (.here _ _)))))⟩
        | false =>
          refine wp_region_held_drew (S := (fun W => (W.cell? ⟨X, 0, none⟩ = some (Value.int .i64 g.fr) ∧ W.cell? ⟨X, 1, none⟩ = some (Value.int .i64 g.dst) ∧ W.cell? ⟨X, 2, none⟩ = some (Value.int .i64 g.kind) ∧ W.cell? ⟨X, 3, none⟩ = some (Value.int .u64 g.n) ∧ W.cell? ⟨X, 4, none⟩ = some (Value.int .i64 g.by') ∧ W.cell? ⟨X, 5, none⟩ = some (Value.int .u64 g.seq) ∧ W.cell? ⟨X, 6, none⟩ = some (Value.int .u64 g.ack) ∧ W.cell? ⟨X, 7, none⟩ = some (Value.int .u64 g.mask) ∧ W.cell? ⟨X, 8, none⟩ = some (.slice a n c)) ∧ (W.cell? ⟨Y, 0, none⟩ = some (Value.int .i64 h.fr) ∧ W.cell? ⟨Y, 1, none⟩ = some (Value.int .i64 h.dst) ∧ W.cell? ⟨Y, 2, none⟩ = some (Value.int .i64 h.kind) ∧ W.cell? ⟨Y, 3, none⟩ = some (Value.int .u64 h.n) ∧ W.cell? ⟨Y, 4, none⟩ = some (Value.int .i64 h.by') ∧ W.cell? ⟨Y, 5, none⟩ = some (Value.int .u64 h.seq) ∧ W.cell? ⟨Y, 6, none⟩ = some (Value.int .u64 h.ack) ∧ W.cell? ⟨Y, 7, none⟩ = some (Value.int .u64 h.mask) ∧ W.cell? ⟨Y, 8, none⟩ = some (.slice b m cb)) ∧ (convert 23 9 (.slice ea N ec)).run Tryd.prog W = .ok (.string A) W ∧ (convert 23 9 (.slice fa N2 fc)).run Tryd.prog W = .ok (.string B) W)) (by kernel_rfl) ?_ (fun hHeld => ?_)
          · have H := hH.out.drew
            exact ⟨gm_cells (g := g) H (.there (.there (.there (.here _ _)))), gm_cells (g := h) H (.there (.there (.here _ _))), hcva.out _ _ _ H (.there (.here _ _)), hcvb.out _ _ _ H (.here _ _)⟩
          have H := hH.out.drew
          generalize World.drew w10 = w11 at *
          clear hH
          refine takeL (i := 0) rfl (by kernel_rfl) (by kernel_rfl) (by kernel_rfl) (fun _ _ _ _ h => h) hHeld ?_ (Or.inl ⟨by rfl, ?_⟩) ?_
          rotate_left
          · intro W hW
            (try dsimp only at hW)
            first | (go_simp; done) | (go_simp; with_reducible rfl)
          ((try simp only [Act.put]); (try simp only [List.setIfInBounds_toArray]); (try simp only [List.set_cons_succ]); (try simp only [List.set_cons_zero]))
          refine takeL (i := 1) rfl (by kernel_rfl) (by kernel_rfl) (by kernel_rfl) (fun _ _ _ _ h => h) hHeld ?_ (Or.inl ⟨by rfl, ?_⟩) ?_
          rotate_left
          · intro W hW
            (try dsimp only at hW)
            first | (go_simp; done) | (go_simp; with_reducible rfl)
          ((try simp only [Act.put]); (try simp only [List.setIfInBounds_toArray]); (try simp only [List.set_cons_succ]); (try simp only [List.set_cons_zero]))
          refine takeL (i := 2) rfl (by kernel_rfl) (by kernel_rfl) (by kernel_rfl) (fun _ _ _ _ h => h) hHeld ?_ (Or.inl ⟨by rfl, ?_⟩) ?_
          rotate_left
          · intro W hW
            (try dsimp only at hW)
            first | (go_simp; done) | (go_simp; with_reducible rfl)
          ((try simp only [Act.put]); (try simp only [List.setIfInBounds_toArray]); (try simp only [List.set_cons_succ]); (try simp only [List.set_cons_zero]))
          refine takeL (i := 3) rfl (by kernel_rfl) (by kernel_rfl) (by kernel_rfl) (fun _ _ _ _ h => h) hHeld ?_ (Or.inl ⟨by rfl, ?_⟩) ?_
          rotate_left
          · intro W hW
            (try dsimp only at hW)
            first | (go_simp; done) | (go_simp; with_reducible rfl)
          ((try simp only [Act.put]); (try simp only [List.setIfInBounds_toArray]); (try simp only [List.set_cons_succ]); (try simp only [List.set_cons_zero]))
          refine takeL (i := 4) rfl (by kernel_rfl) (by kernel_rfl) (by kernel_rfl) (fun _ _ _ _ h => h) hHeld ?_ (Or.inl ⟨by rfl, ?_⟩) ?_
          rotate_left
          · intro W hW
            (try dsimp only at hW)
            first | (go_simp; done) | (go_simp; with_reducible rfl)
          ((try simp only [Act.put]); (try simp only [List.setIfInBounds_toArray]); (try simp only [List.set_cons_succ]); (try simp only [List.set_cons_zero]))
          refine takeL (i := 5) rfl (by kernel_rfl) (by kernel_rfl) (by kernel_rfl) (fun _ _ _ _ h => h) hHeld ?_ (Or.inl ⟨by rfl, ?_⟩) ?_
          rotate_left
          · intro W hW
            (try dsimp only at hW)
            first | (go_simp; done) | (go_simp; with_reducible rfl)
          ((try simp only [Act.put]); (try simp only [List.setIfInBounds_toArray]); (try simp only [List.set_cons_succ]); (try simp only [List.set_cons_zero]))
          refine takeL (i := 6) rfl (by kernel_rfl) (by kernel_rfl) (by kernel_rfl) (fun _ _ _ _ h => h) hHeld ?_ (Or.inl ⟨by rfl, ?_⟩) ?_
          rotate_left
          · intro W hW
            (try dsimp only at hW)
            first | (go_simp; done) | (go_simp; with_reducible rfl)
          ((try simp only [Act.put]); (try simp only [List.setIfInBounds_toArray]); (try simp only [List.set_cons_succ]); (try simp only [List.set_cons_zero]))
          refine takeL (i := 7) rfl (by kernel_rfl) (by kernel_rfl) (by kernel_rfl) (fun _ _ _ _ h => h) hHeld ?_ (Or.inl ⟨by rfl, ?_⟩) ?_
          rotate_left
          · intro W hW
            (try dsimp only at hW)
            first | (go_simp; done) | (go_simp; with_reducible rfl)
          ((try simp only [Act.put]); (try simp only [List.setIfInBounds_toArray]); (try simp only [List.set_cons_succ]); (try simp only [List.set_cons_zero]))
          refine takeL (i := 8) rfl (by kernel_rfl) (by kernel_rfl) (by kernel_rfl) (fun _ _ _ _ h => h) hHeld ?_ (Or.inl ⟨by rfl, ?_⟩) ?_
          rotate_left
          · intro W hW
            (try dsimp only at hW)
            first | (go_simp; done) | (go_simp; with_reducible rfl)
          ((try simp only [Act.put]); (try simp only [List.setIfInBounds_toArray]); (try simp only [List.set_cons_succ]); (try simp only [List.set_cons_zero]))
          refine callL (i := 9) rfl (by kernel_rfl) (fun K hK => ?_)
          rw [if_pos (by rfl)]
          go_simp
          refine (same_s g h a b n c m cb H hgn'.out hhm'.out hn hok.out.data hoh.out.data (fun V hV => hra'.out _ _ _ hV (.there (.there (.there (.there (.here _ _)))))) (fun V hV => hrb'.out _ _ _ hV (.there (.there (.there (.there (.here _ _)))))) false hD'.out).mono ?_
          rintro e w12 ⟨rfl, H12⟩
          have H' := H12
          clear H hHeld
          clear H12
          have H := H'
          clear H'
          refine hK.out _ _ ?_ (fun hHeld => ?_)
          · exact ⟨gm_cells (g := g) H (.there (.there (.there (.here _ _)))), gm_cells (g := h) H (.there (.there (.here _ _))), hcva.out _ _ _ H (.there (.here _ _)), hcvb.out _ _ _ H (.here _ _)⟩
          clear hK K
          ((try simp only [Act.put]); (try simp only [List.setIfInBounds_toArray]); (try simp only [List.set_cons_succ]); (try simp only [List.set_cons_zero]))
          refine takeL (i := 10) rfl (by kernel_rfl) (by kernel_rfl) (by kernel_rfl) (fun _ _ _ _ h => h) hHeld ?_ (Or.inl ⟨by rfl, ?_⟩) ?_
          rotate_left
          · intro W hW
            (try dsimp only at hW)
            first | (go_simp; done) | (go_simp; with_reducible rfl)
          ((try simp only [Act.put]); (try simp only [List.setIfInBounds_toArray]); (try simp only [List.set_cons_succ]); (try simp only [List.set_cons_zero]))
          refine takeL (i := 11) rfl (by kernel_rfl) (by kernel_rfl) (by kernel_rfl) (fun _ _ _ _ h => h) hHeld ?_ (Or.inl ⟨by rfl, ?_⟩) ?_
          rotate_left
          · intro W hW
            (try dsimp only at hW)
            first | (go_simp; done) | (go_simp; with_reducible rfl)
          ((try simp only [Act.put]); (try simp only [List.setIfInBounds_toArray]); (try simp only [List.set_cons_succ]); (try simp only [List.set_cons_zero]))
          refine takeL (i := 12) rfl (by kernel_rfl) (by kernel_rfl) (by kernel_rfl) (fun _ _ _ _ h => h) hHeld ?_ (Or.inl ⟨by rfl, ?_⟩) ?_
          rotate_left
          · intro W hW
            (try dsimp only at hW)
            first | (go_simp; done) | (go_simp; with_reducible rfl)
          ((try simp only [Act.put]); (try simp only [List.setIfInBounds_toArray]); (try simp only [List.set_cons_succ]); (try simp only [List.set_cons_zero]))
          refine takeL (i := 13) rfl (by kernel_rfl) (by kernel_rfl) (by kernel_rfl) (fun _ _ _ _ h => h) hHeld ?_ (Or.inl ⟨by rfl, ?_⟩) ?_
          rotate_left
          · intro W hW
            (try dsimp only at hW)
            first | (go_simp; done) | (go_simp; with_reducible rfl)
          ((try simp only [Act.put]); (try simp only [List.setIfInBounds_toArray]); (try simp only [List.set_cons_succ]); (try simp only [List.set_cons_zero]))
          refine takeL (i := 14) rfl (by kernel_rfl) (by kernel_rfl) (by kernel_rfl) (fun _ _ _ _ h => h) hHeld ?_ (Or.inl ⟨by rfl, ?_⟩) ?_
          rotate_left
          · intro W hW
            (try dsimp only at hW)
            first | (go_simp; done) | (go_simp; with_reducible rfl)
          ((try simp only [Act.put]); (try simp only [List.setIfInBounds_toArray]); (try simp only [List.set_cons_succ]); (try simp only [List.set_cons_zero]))
          refine callL (i := 15) rfl (by kernel_rfl) (fun K hK => ?_)
          rw [if_pos (by rfl)]
          go_simp
          refine (htx.out _ _ H (fun V hV => htab.out _ _ _ hV (.there (.there (.there (.there (.here _ _))))))).mono ?_
          rintro e w13 ⟨rfl, H13⟩
          have H' := H13
          clear H hHeld
          clear H13
          have H := H'
          clear H'
          refine hK.out _ _ ?_ (fun hHeld => ?_)
          · exact ⟨gm_cells (g := g) H (.there (.there (.there (.here _ _)))), gm_cells (g := h) H (.there (.there (.here _ _))), hcva.out _ _ _ H (.there (.here _ _)), hcvb.out _ _ _ H (.here _ _)⟩
          clear hK K
          ((try simp only [Act.put]); (try simp only [List.setIfInBounds_toArray]); (try simp only [List.set_cons_succ]); (try simp only [List.set_cons_zero]))
          refine takeL (i := 16) rfl (by kernel_rfl) (by kernel_rfl) (by kernel_rfl) (fun _ _ _ _ h => h) hHeld ?_ (Or.inl ⟨by rfl, ?_⟩) ?_
          rotate_left
          · intro W hW
            (try dsimp only at hW)
            first | (go_simp; done) | (go_simp; with_reducible rfl)
          ((try simp only [Act.put]); (try simp only [List.setIfInBounds_toArray]); (try simp only [List.set_cons_succ]); (try simp only [List.set_cons_zero]))
          refine takeL (i := 17) rfl (by kernel_rfl) (by kernel_rfl) (by kernel_rfl) (fun _ _ _ _ h => h) hHeld ?_ (Or.inl ⟨by rfl, ?_⟩) ?_
          rotate_left
          · intro W hW
            (try dsimp only at hW)
            first | (go_simp; done) | (go_simp; with_reducible rfl)
          ((try simp only [Act.put]); (try simp only [List.setIfInBounds_toArray]); (try simp only [List.set_cons_succ]); (try simp only [List.set_cons_zero]))
          refine takeL (i := 18) rfl (by kernel_rfl) (by kernel_rfl) (by kernel_rfl) (fun _ _ _ _ h => h) hHeld undef (Or.inr ⟨by rfl, rfl⟩) ?_
          ((try simp only [Act.put]); (try simp only [List.setIfInBounds_toArray]); (try simp only [List.set_cons_succ]); (try simp only [List.set_cons_zero]))
          refine takeL (i := 19) rfl (by kernel_rfl) (by kernel_rfl) (by kernel_rfl) (fun _ _ _ _ h => h) hHeld undef (Or.inr ⟨by rfl, rfl⟩) ?_
          ((try simp only [Act.put]); (try simp only [List.setIfInBounds_toArray]); (try simp only [List.set_cons_succ]); (try simp only [List.set_cons_zero]))
          refine takeL (i := 20) rfl (by kernel_rfl) (by kernel_rfl) (by kernel_rfl) (fun _ _ _ _ h => h) hHeld undef (Or.inr ⟨by rfl, rfl⟩) ?_
          ((try simp only [Act.put]); (try simp only [List.setIfInBounds_toArray]); (try simp only [List.set_cons_succ]); (try simp only [List.set_cons_zero]))
          refine takeL (i := 21) rfl (by kernel_rfl) (by kernel_rfl) (by kernel_rfl) (fun _ _ _ _ h => h) hHeld undef (Or.inr ⟨by rfl, rfl⟩) ?_
          ((try simp only [Act.put]); (try simp only [List.setIfInBounds_toArray]); (try simp only [List.set_cons_succ]); (try simp only [List.set_cons_zero]))
          refine takeL (i := 22) rfl (by kernel_rfl) (by kernel_rfl) (by kernel_rfl) (fun _ _ _ _ h => h) hHeld undef (Or.inr ⟨by rfl, rfl⟩) ?_
          ((try simp only [Act.put]); (try simp only [List.setIfInBounds_toArray]); (try simp only [List.set_cons_succ]); (try simp only [List.set_cons_zero]))
          refine takeL (i := 23) rfl (by kernel_rfl) (by kernel_rfl) (by kernel_rfl) (fun _ _ _ _ h => h) hHeld ?_ (Or.inl ⟨by rfl, ?_⟩) ?_
          rotate_left
          · intro W hW
            (try dsimp only at hW)
            first | (go_simp; done) | (go_simp; with_reducible rfl)
          ((try simp only [Act.put]); (try simp only [List.setIfInBounds_toArray]); (try simp only [List.set_cons_succ]); (try simp only [List.set_cons_zero]))
          refine takeL (i := 24) rfl (by kernel_rfl) (by kernel_rfl) (by kernel_rfl) (fun _ _ _ _ h => h) hHeld ?_ (Or.inl ⟨by rfl, ?_⟩) ?_
          rotate_left
          · intro W hW
            (try dsimp only at hW)
            first | (go_simp; done) | (go_simp; with_reducible rfl)
          ((try simp only [Act.put]); (try simp only [List.setIfInBounds_toArray]); (try simp only [List.set_cons_succ]); (try simp only [List.set_cons_zero]))
          refine takeL (i := 25) rfl (by kernel_rfl) (by kernel_rfl) (by kernel_rfl) (fun _ _ _ _ h => h) hHeld ?_ (Or.inl ⟨by rfl, ?_⟩) ?_
          rotate_left
          · intro W hW
            (try dsimp only at hW)
            first | (go_simp; done) | (go_simp; with_reducible rfl)
          ((try simp only [Act.put]); (try simp only [List.setIfInBounds_toArray]); (try simp only [List.set_cons_succ]); (try simp only [List.set_cons_zero]))
          refine wpAnyH_done (by kernel_rfl) ?_ _
          have hH := Lib.hid H
          clear H hHeld
          go_wp2_with fail
          go_ret
          exact ⟨rfl, hH.out.kp (.there (.there (.there (.there (.here _ _)))))⟩
      · have hTb : (T1.toList == T2.toList) = false := by rw [beq_toList]; simpa using hTT
        cases D with
        | true => exact absurd (hgT.out rfl) hTT
        | false =>
          clear hTT
          refine wp_region_held_drew (S := (fun W => (W.cell? ⟨X, 0, none⟩ = some (Value.int .i64 g.fr) ∧ W.cell? ⟨X, 1, none⟩ = some (Value.int .i64 g.dst) ∧ W.cell? ⟨X, 2, none⟩ = some (Value.int .i64 g.kind) ∧ W.cell? ⟨X, 3, none⟩ = some (Value.int .u64 g.n) ∧ W.cell? ⟨X, 4, none⟩ = some (Value.int .i64 g.by') ∧ W.cell? ⟨X, 5, none⟩ = some (Value.int .u64 g.seq) ∧ W.cell? ⟨X, 6, none⟩ = some (Value.int .u64 g.ack) ∧ W.cell? ⟨X, 7, none⟩ = some (Value.int .u64 g.mask) ∧ W.cell? ⟨X, 8, none⟩ = some (.slice a n c)) ∧ (W.cell? ⟨Y, 0, none⟩ = some (Value.int .i64 h.fr) ∧ W.cell? ⟨Y, 1, none⟩ = some (Value.int .i64 h.dst) ∧ W.cell? ⟨Y, 2, none⟩ = some (Value.int .i64 h.kind) ∧ W.cell? ⟨Y, 3, none⟩ = some (Value.int .u64 h.n) ∧ W.cell? ⟨Y, 4, none⟩ = some (Value.int .i64 h.by') ∧ W.cell? ⟨Y, 5, none⟩ = some (Value.int .u64 h.seq) ∧ W.cell? ⟨Y, 6, none⟩ = some (Value.int .u64 h.ack) ∧ W.cell? ⟨Y, 7, none⟩ = some (Value.int .u64 h.mask) ∧ W.cell? ⟨Y, 8, none⟩ = some (.slice b m cb)) ∧ (convert 23 9 (.slice ea N ec)).run Tryd.prog W = .ok (.string A) W ∧ (convert 23 9 (.slice fa N2 fc)).run Tryd.prog W = .ok (.string B) W)) (by kernel_rfl) ?_ (fun hHeld => ?_)
          · have H := hH.out.drew
            exact ⟨gm_cells (g := g) H (.there (.there (.there (.here _ _)))), gm_cells (g := h) H (.there (.there (.here _ _))), hcva.out _ _ _ H (.there (.here _ _)), hcvb.out _ _ _ H (.here _ _)⟩
          have H := hH.out.drew
          generalize World.drew w10 = w11 at *
          clear hH
          refine takeL (i := 0) rfl (by kernel_rfl) (by kernel_rfl) (by kernel_rfl) (fun _ _ _ _ h => h) hHeld ?_ (Or.inl ⟨by rfl, ?_⟩) ?_
          rotate_left
          · intro W hW
            (try dsimp only at hW)
            first | (go_simp; done) | (go_simp; with_reducible rfl)
          ((try simp only [Act.put]); (try simp only [List.setIfInBounds_toArray]); (try simp only [List.set_cons_succ]); (try simp only [List.set_cons_zero]))
          refine takeL (i := 1) rfl (by kernel_rfl) (by kernel_rfl) (by kernel_rfl) (fun _ _ _ _ h => h) hHeld ?_ (Or.inl ⟨by rfl, ?_⟩) ?_
          rotate_left
          · intro W hW
            (try dsimp only at hW)
            first | (go_simp; done) | (go_simp; with_reducible rfl)
          ((try simp only [Act.put]); (try simp only [List.setIfInBounds_toArray]); (try simp only [List.set_cons_succ]); (try simp only [List.set_cons_zero]))
          refine takeL (i := 2) rfl (by kernel_rfl) (by kernel_rfl) (by kernel_rfl) (fun _ _ _ _ h => h) hHeld ?_ (Or.inl ⟨by rfl, ?_⟩) ?_
          rotate_left
          · intro W hW
            (try dsimp only at hW)
            first | (go_simp; done) | (go_simp; with_reducible rfl)
          ((try simp only [Act.put]); (try simp only [List.setIfInBounds_toArray]); (try simp only [List.set_cons_succ]); (try simp only [List.set_cons_zero]))
          refine takeL (i := 3) rfl (by kernel_rfl) (by kernel_rfl) (by kernel_rfl) (fun _ _ _ _ h => h) hHeld ?_ (Or.inl ⟨by rfl, ?_⟩) ?_
          rotate_left
          · intro W hW
            (try dsimp only at hW)
            first | (go_simp; done) | (go_simp; with_reducible rfl)
          ((try simp only [Act.put]); (try simp only [List.setIfInBounds_toArray]); (try simp only [List.set_cons_succ]); (try simp only [List.set_cons_zero]))
          refine takeL (i := 4) rfl (by kernel_rfl) (by kernel_rfl) (by kernel_rfl) (fun _ _ _ _ h => h) hHeld ?_ (Or.inl ⟨by rfl, ?_⟩) ?_
          rotate_left
          · intro W hW
            (try dsimp only at hW)
            first | (go_simp; done) | (go_simp; with_reducible rfl)
          ((try simp only [Act.put]); (try simp only [List.setIfInBounds_toArray]); (try simp only [List.set_cons_succ]); (try simp only [List.set_cons_zero]))
          refine takeL (i := 5) rfl (by kernel_rfl) (by kernel_rfl) (by kernel_rfl) (fun _ _ _ _ h => h) hHeld ?_ (Or.inl ⟨by rfl, ?_⟩) ?_
          rotate_left
          · intro W hW
            (try dsimp only at hW)
            first | (go_simp; done) | (go_simp; with_reducible rfl)
          ((try simp only [Act.put]); (try simp only [List.setIfInBounds_toArray]); (try simp only [List.set_cons_succ]); (try simp only [List.set_cons_zero]))
          refine takeL (i := 6) rfl (by kernel_rfl) (by kernel_rfl) (by kernel_rfl) (fun _ _ _ _ h => h) hHeld ?_ (Or.inl ⟨by rfl, ?_⟩) ?_
          rotate_left
          · intro W hW
            (try dsimp only at hW)
            first | (go_simp; done) | (go_simp; with_reducible rfl)
          ((try simp only [Act.put]); (try simp only [List.setIfInBounds_toArray]); (try simp only [List.set_cons_succ]); (try simp only [List.set_cons_zero]))
          refine takeL (i := 7) rfl (by kernel_rfl) (by kernel_rfl) (by kernel_rfl) (fun _ _ _ _ h => h) hHeld ?_ (Or.inl ⟨by rfl, ?_⟩) ?_
          rotate_left
          · intro W hW
            (try dsimp only at hW)
            first | (go_simp; done) | (go_simp; with_reducible rfl)
          ((try simp only [Act.put]); (try simp only [List.setIfInBounds_toArray]); (try simp only [List.set_cons_succ]); (try simp only [List.set_cons_zero]))
          refine takeL (i := 8) rfl (by kernel_rfl) (by kernel_rfl) (by kernel_rfl) (fun _ _ _ _ h => h) hHeld ?_ (Or.inl ⟨by rfl, ?_⟩) ?_
          rotate_left
          · intro W hW
            (try dsimp only at hW)
            first | (go_simp; done) | (go_simp; with_reducible rfl)
          ((try simp only [Act.put]); (try simp only [List.setIfInBounds_toArray]); (try simp only [List.set_cons_succ]); (try simp only [List.set_cons_zero]))
          refine callL (i := 9) rfl (by kernel_rfl) (fun K hK => ?_)
          rw [if_pos (by rfl)]
          go_simp
          refine (same_s g h a b n c m cb H hgn'.out hhm'.out hn hok.out.data hoh.out.data (fun V hV => hra'.out _ _ _ hV (.there (.there (.there (.there (.here _ _)))))) (fun V hV => hrb'.out _ _ _ hV (.there (.there (.there (.there (.here _ _)))))) false hD'.out).mono ?_
          rintro e w12 ⟨rfl, H12⟩
          have H' := H12
          clear H hHeld
          clear H12
          have H := H'
          clear H'
          refine hK.out _ _ ?_ (fun hHeld => ?_)
          · exact ⟨gm_cells (g := g) H (.there (.there (.there (.here _ _)))), gm_cells (g := h) H (.there (.there (.here _ _))), hcva.out _ _ _ H (.there (.here _ _)), hcvb.out _ _ _ H (.here _ _)⟩
          clear hK K
          ((try simp only [Act.put]); (try simp only [List.setIfInBounds_toArray]); (try simp only [List.set_cons_succ]); (try simp only [List.set_cons_zero]))
          refine takeL (i := 10) rfl (by kernel_rfl) (by kernel_rfl) (by kernel_rfl) (fun _ _ _ _ h => h) hHeld ?_ (Or.inl ⟨by rfl, ?_⟩) ?_
          rotate_left
          · intro W hW
            (try dsimp only at hW)
            first | (go_simp; done) | (go_simp; with_reducible rfl)
          ((try simp only [Act.put]); (try simp only [List.setIfInBounds_toArray]); (try simp only [List.set_cons_succ]); (try simp only [List.set_cons_zero]))
          refine takeL (i := 11) rfl (by kernel_rfl) (by kernel_rfl) (by kernel_rfl) (fun _ _ _ _ h => h) hHeld ?_ (Or.inl ⟨by rfl, ?_⟩) ?_
          rotate_left
          · intro W hW
            (try dsimp only at hW)
            first | (go_simp; done) | (go_simp; with_reducible rfl)
          ((try simp only [Act.put]); (try simp only [List.setIfInBounds_toArray]); (try simp only [List.set_cons_succ]); (try simp only [List.set_cons_zero]))
          refine takeL (i := 12) rfl (by kernel_rfl) (by kernel_rfl) (by kernel_rfl) (fun _ _ _ _ h => h) hHeld ?_ (Or.inl ⟨by rfl, ?_⟩) ?_
          rotate_left
          · intro W hW
            (try dsimp only at hW)
            first | (go_simp; done) | (go_simp; with_reducible rfl)
          ((try simp only [Act.put]); (try simp only [List.setIfInBounds_toArray]); (try simp only [List.set_cons_succ]); (try simp only [List.set_cons_zero]))
          refine takeL (i := 13) rfl (by kernel_rfl) (by kernel_rfl) (by kernel_rfl) (fun _ _ _ _ h => h) hHeld ?_ (Or.inl ⟨by rfl, ?_⟩) ?_
          rotate_left
          · intro W hW
            (try dsimp only at hW)
            first | (go_simp; done) | (go_simp; with_reducible rfl)
          ((try simp only [Act.put]); (try simp only [List.setIfInBounds_toArray]); (try simp only [List.set_cons_succ]); (try simp only [List.set_cons_zero]))
          refine takeL (i := 14) rfl (by kernel_rfl) (by kernel_rfl) (by kernel_rfl) (fun _ _ _ _ h => h) hHeld ?_ (Or.inl ⟨by rfl, ?_⟩) ?_
          rotate_left
          · intro W hW
            (try dsimp only at hW)
            first | (go_simp; done) | (go_simp; with_reducible rfl)
          ((try simp only [Act.put]); (try simp only [List.setIfInBounds_toArray]); (try simp only [List.set_cons_succ]); (try simp only [List.set_cons_zero]))
          refine callL (i := 15) rfl (by kernel_rfl) (fun K hK => ?_)
          rw [if_pos (by rfl)]
          go_simp
          refine (htx.out _ _ H (fun V hV => htab.out _ _ _ hV (.there (.there (.there (.there (.here _ _))))))).mono ?_
          rintro e w13 ⟨rfl, H13⟩
          have H' := H13
          clear H hHeld
          clear H13
          have H := H'
          clear H'
          refine hK.out _ _ ?_ (fun hHeld => ?_)
          · exact ⟨gm_cells (g := g) H (.there (.there (.there (.here _ _)))), gm_cells (g := h) H (.there (.there (.here _ _))), hcva.out _ _ _ H (.there (.here _ _)), hcvb.out _ _ _ H (.here _ _)⟩
          clear hK K
          ((try simp only [Act.put]); (try simp only [List.setIfInBounds_toArray]); (try simp only [List.set_cons_succ]); (try simp only [List.set_cons_zero]))
          refine takeL (i := 16) rfl (by kernel_rfl) (by kernel_rfl) (by kernel_rfl) (fun _ _ _ _ h => h) hHeld ?_ (Or.inl ⟨by rfl, ?_⟩) ?_
          rotate_left
          · intro W hW
            (try dsimp only at hW)
            first | (go_simp; done) | (go_simp; with_reducible rfl)
          ((try simp only [Act.put]); (try simp only [List.setIfInBounds_toArray]); (try simp only [List.set_cons_succ]); (try simp only [List.set_cons_zero]))
          refine takeL (i := 17) rfl (by kernel_rfl) (by kernel_rfl) (by kernel_rfl) (fun _ _ _ _ h => h) hHeld ?_ (Or.inl ⟨by rfl, ?_⟩) ?_
          rotate_left
          · intro W hW
            (try dsimp only at hW)
            first | (go_simp; done) | (go_simp; with_reducible rfl)
          ((try simp only [Act.put]); (try simp only [List.setIfInBounds_toArray]); (try simp only [List.set_cons_succ]); (try simp only [List.set_cons_zero]))
          refine takeL (i := 18) rfl (by kernel_rfl) (by kernel_rfl) (by kernel_rfl) (fun _ _ _ _ h => h) hHeld ?_ (Or.inl ⟨by rfl, ?_⟩) ?_
          rotate_left
          · intro W hW
            (try dsimp only at hW)
            first | (go_simp; done) | (go_simp; with_reducible rfl)
          ((try simp only [Act.put]); (try simp only [List.setIfInBounds_toArray]); (try simp only [List.set_cons_succ]); (try simp only [List.set_cons_zero]))
          refine takeL (i := 19) rfl (by kernel_rfl) (by kernel_rfl) (by kernel_rfl) (fun _ _ _ _ h => h) hHeld ?_ (Or.inl ⟨by rfl, ?_⟩) ?_
          rotate_left
          · intro W hW
            (try dsimp only at hW)
            first | (go_simp; done) | (go_simp; with_reducible rfl)
          ((try simp only [Act.put]); (try simp only [List.setIfInBounds_toArray]); (try simp only [List.set_cons_succ]); (try simp only [List.set_cons_zero]))
          refine takeL (i := 20) rfl (by kernel_rfl) (by kernel_rfl) (by kernel_rfl) (fun _ _ _ _ h => h) hHeld ?_ (Or.inl ⟨by rfl, ?_⟩) ?_
          rotate_left
          · intro W hW
            (try dsimp only at hW)
            first | (go_simp; done) | (go_simp; with_reducible rfl)
          ((try simp only [Act.put]); (try simp only [List.setIfInBounds_toArray]); (try simp only [List.set_cons_succ]); (try simp only [List.set_cons_zero]))
          refine takeL (i := 21) rfl (by kernel_rfl) (by kernel_rfl) (by kernel_rfl) (fun _ _ _ _ h => h) hHeld ?_ (Or.inl ⟨by rfl, ?_⟩) ?_
          rotate_left
          · intro W hW
            (try dsimp only at hW)
            first | (go_simp; done) | (go_simp; with_reducible rfl)
          ((try simp only [Act.put]); (try simp only [List.setIfInBounds_toArray]); (try simp only [List.set_cons_succ]); (try simp only [List.set_cons_zero]))
          refine takeL (i := 22) rfl (by kernel_rfl) (by kernel_rfl) (by kernel_rfl) (fun _ _ _ _ h => h) hHeld ?_ (Or.inl ⟨by rfl, ?_⟩) ?_
          rotate_left
          · intro W hW
            (try dsimp only at hW)
            first | (go_simp; done) | (go_simp; with_reducible rfl)
          ((try simp only [Act.put]); (try simp only [List.setIfInBounds_toArray]); (try simp only [List.set_cons_succ]); (try simp only [List.set_cons_zero]))
          refine takeL (i := 23) rfl (by kernel_rfl) (by kernel_rfl) (by kernel_rfl) (fun _ _ _ _ h => h) hHeld ?_ (Or.inl ⟨by rfl, ?_⟩) ?_
          rotate_left
          · intro W hW
            (try dsimp only at hW)
            first | (go_simp; done) | (go_simp; with_reducible rfl)
          ((try simp only [Act.put]); (try simp only [List.setIfInBounds_toArray]); (try simp only [List.set_cons_succ]); (try simp only [List.set_cons_zero]))
          refine takeL (i := 24) rfl (by kernel_rfl) (by kernel_rfl) (by kernel_rfl) (fun _ _ _ _ h => h) hHeld ?_ (Or.inl ⟨by rfl, ?_⟩) ?_
          rotate_left
          · intro W hW
            (try dsimp only at hW)
            first | (go_simp; done) | (go_simp; with_reducible rfl)
          ((try simp only [Act.put]); (try simp only [List.setIfInBounds_toArray]); (try simp only [List.set_cons_succ]); (try simp only [List.set_cons_zero]))
          refine takeL (i := 25) rfl (by kernel_rfl) (by kernel_rfl) (by kernel_rfl) (fun _ _ _ _ h => h) hHeld ?_ (Or.inl ⟨by rfl, ?_⟩) ?_
          rotate_left
          · intro W hW
            (try dsimp only at hW)
            first | (go_simp; done) | (go_simp; with_reducible rfl)
          ((try simp only [Act.put]); (try simp only [List.setIfInBounds_toArray]); (try simp only [List.set_cons_succ]); (try simp only [List.set_cons_zero]))
          refine wpAnyH_done (by kernel_rfl) ?_ _
          have hH := Lib.hid H
          clear H hHeld
          go_wp2_with fail
          go_ret
          exact ⟨rfl, hH.out.kp (.there (.there (.there (.there (.here _ _)))))⟩
    · have hEh : E2 = 180 := by rw [← hE2'.out]; unfold encR; rw [if_neg mh]
      subst hEh
      clear mg mh hT
      go_wp2_with fail
      go_ret
      exact ⟨rfl, hH.out.kp (.there (.there (.there (.there (.here _ _)))))⟩
  · have hz := lineS_not mg
    have hEg : E = 180 := by rw [← hE'.out]; unfold encR; rw [if_neg mg]
    subst hEg
    rw [hz]
    clear mg hz hl1
    go_wp2_with fail
    go_ret
    exact ⟨rfl, hH.out.kp (.there (.there (.there (.there (.here _ _)))))⟩
end Go.Proofs.YtilpkfgdlehmpaaDoor
