/- The chapter's first examples: told, beat, data, alive. -/
import Derived.Test.YtilpkfgdlehmpaaDoorHelpG
import Derived.Test.YtilpkfgdlehmpaaDoorBackL
import Derived.Test.YtilpkfgdlehmpaaDoorForD
import Derived.Laws.IdiomStrings
import Derived.Lib.SmallJoins
namespace Go.Proofs.YtilpkfgdlehmpaaDoor
open Go.RowKit Go.Shelf
set_option linter.unusedVariables false

theorem conv_strS {L : List Pc} {w : World} (H : SL w L) (S : ByteArray) (l : List Int) (hl : S.data.toList.map (fun b => (b.toNat : Int)) = l) :
    ∃ (c : Nat) (w' : World) (o : Obj), (convert 9 23 (.string S)).run Tryd.prog w = .ok (.slice (some ⟨w.heap.size, 0, none⟩) l.length c) w' ∧ SL w' (.obj w.heap.size o :: L) ∧ RdB w' (some ⟨w.heap.size, 0, none⟩) l := by
  have hn : S.size = l.length := by rw [← hl]; simp
  have h := run_bytes_of_string (P := Tryd.prog) w 9 23 5 S Tryd.underlying9 Tryd.underlying23 Tryd.underlying5
  rw [hn] at h
  have H' := H.drew.allocO (.cells (bytesRow S (grownCap w l.length 0 5)) 5 ((bytesRow S (grownCap w l.length 0 5)).size, (bytesRow S (grownCap w l.length 0 5)).size + 1))
  refine ⟨_, _, _, h, H', fun i hi => ⟨w.heap.size, 0, rfl, ?_⟩⟩
  refine blk_cell (show (w.drew.alloc _).heap[w.heap.size]? = some _ from H'.head) (0 + i) _ ?_
  subst hl
  have hi' : i < S.data.size := by simpa using hi
  have hi2 : i < S.size := hi'
  simp [bytesRow, Array.getElem?_append, hi2, List.getD_eq_getElem?_getD]

set_option maxRecDepth 100000 in
set_option maxHeartbeats 8000000 in
/-- The bytes are those of the line, sealed. -/
theorem told_c (g : Gm) (ok : GmOk g) (hm : mayK g) (a : Option Addr) (n c : Nat) {L : List Pc} {w : World} (H : SL w L) (hnil : a = none → c = 0) (hn : g.data.length = n) (hl : g.data.length ≤ 1000) (hr : ∀ V, SL V L → RdB V a g.data) (S : ByteArray) (hS : S.data.toList.map (fun b => (b.toNat : Int)) = encI g) :
    Calls Tryd.prog 41 #[gmV g (.slice a n c), .string S] w fun e w' => e = .returned (.bool true) ∧ SL w' L := by
  subst hn
  have hmx : Tryd.prog.follows .mixedOrders = true := by kernel_rfl
  have H1 := H.alloc (gmC g (.slice a g.data.length c)) 25
  have hen := enc_c g ok a c H1 hnil hl (fun V hV => hr V hV.tail)
  have hR : encR g = (sealI (encI g), 0) := by unfold encR; rw [if_pos hm]
  unfold EncPost at hen
  rw [hR] at hen
  have hcs := Lib.hid (fun V L (hV : SL V L) => conv_strS hV S (encI g) hS)
  obtain ⟨B, hB⟩ : ∃ B, encI g = B := ⟨_, rfl⟩
  have hBl := encI_len ok hm
  have hBy := encI_bytes ok
  have hIl := sealI_len (encI g)
  have hIy := Lib.hid (sealI_bytes (encI g))
  rw [hB] at hcs hBl hBy hIl hIy hen
  obtain ⟨I, hI⟩ : ∃ I, sealI B = I := ⟨_, rfl⟩
  rw [hI] at hIl hIy hen
  obtain ⟨m, hm'⟩ : ∃ m, B.length = m := ⟨_, rfl⟩
  have hml := Lib.hid hm'
  rw [hm'] at hcs hBl hIl
  obtain ⟨N, hN⟩ : ∃ N, I.length = N := ⟨_, rfl⟩
  have hNl := Lib.hid hN
  rw [hN] at hIl hen
  have hsl : Hid (∀ V L a c, SL V L → RdB V a B → (a = none → c = 0) → Calls Tryd.prog 31 #[.slice a m c] V fun e w' => ∃ a' c', e = .returned (.slice a' N c') ∧ SL w' (.own 5 1 (.slice a' N c') N (bv I) :: L)) := Lib.hid fun V L a c hV hb hnil => by
    have := seal_c hV hml.out (by omega) hnil hb hBy
    rw [hI, hN] at this
    exact this
  obtain ⟨T, hT⟩ : ∃ T, strK I = T := ⟨_, rfl⟩
  have hcv : Hid (∀ W L L' a c, SL W L → Pull L (.own 5 1 (.slice a N c) N (bv I)) L' → (convert 23 9 (.slice a N c)).run Tryd.prog W = .ok (.string T) W) := Lib.hid fun W L L' a c HW hp => by rw [← hT]; exact run_strK hNl.out (own_rdB HW hp hNl.out) hIy.out
  have hen' := Lib.hid hen
  clear hIl
  clear hen hm' hN hm hBy hIy hnil hr hI hB hT hR hS
  clear hml hNl ok H hl
  generalize hdl : g.data.length = dl at *
  clear hdl
  have hgv : gmV g (.slice a dl c) = .agg #[.int .i64 g.fr, .int .i64 g.dst, .int .i64 g.kind, .int .u64 g.n, .int .i64 g.by', .int .u64 g.seq, .int .u64 g.ack, .int .u64 g.mask, .slice a dl c] := rfl
  rw [hgv] at hen' ⊢
  clear hgv
  unfold gmC at H1 hen'
  have q0 := H1.cell (b := w.heap.size) (o := 0) (.here _ _) rfl
  have q1 := H1.cell (b := w.heap.size) (o := 1) (.here _ _) rfl
  have q2 := H1.cell (b := w.heap.size) (o := 2) (.here _ _) rfl
  have q3 := H1.cell (b := w.heap.size) (o := 3) (.here _ _) rfl
  have q4 := H1.cell (b := w.heap.size) (o := 4) (.here _ _) rfl
  have q5 := H1.cell (b := w.heap.size) (o := 5) (.here _ _) rfl
  have q6 := H1.cell (b := w.heap.size) (o := 6) (.here _ _) rfl
  have q7 := H1.cell (b := w.heap.size) (o := 7) (.here _ _) rfl
  have q8 := H1.cell (b := w.heap.size) (o := 8) (.here _ _) rfl
  clear H1
  go_enter Tryd.func41, Tryd.ntmps41
  go_wp2_with fail
  refine hen'.out.mono ?_
  rintro e w2 ⟨ea, ec, rfl, H2⟩
  clear hen' q0 q1 q2 q3 q4 q5 q6 q7 q8
  have hH := Lib.hid H2
  clear H2
  go_wp2_with fail
  refine wp_region_held_drew (S := (fun W => (convert 23 9 (.slice ea N ec)).run Tryd.prog W = .ok (.string T) W)) (by kernel_rfl) ?_ (fun hHeld => ?_)
  · exact hcv.out _ _ _ _ _ hH.out.drew (.here _ _)
  have H := hH.out.drew
  generalize World.drew w2 = w3 at *
  clear hH
  refine takeL (i := 0) rfl (by kernel_rfl) (by kernel_rfl) (by kernel_rfl) (fun _ _ _ _ h => h) hHeld ?_ (Or.inl ⟨by rfl, ?_⟩) ?_
  rotate_left
  · intro W hW
    (try dsimp only at hW)
    first | (go_simp; done) | (go_simp; with_reducible rfl)
  ((try simp only [Act.put]); (try simp only [List.setIfInBounds_toArray]); (try simp only [List.set_cons_succ]); (try simp only [List.set_cons_zero]))
  refine takeL (i := 1) rfl (by kernel_rfl) (by kernel_rfl) (by kernel_rfl) (fun _ _ _ _ h => h) hHeld ?_ (Or.inl ⟨by rfl, ?_⟩) ?_
  rotate_left
  · intro W hW
    (try dsimp only at hW)
    first | (go_simp; done) | (go_simp; with_reducible rfl)
  ((try simp only [Act.put]); (try simp only [List.setIfInBounds_toArray]); (try simp only [List.set_cons_succ]); (try simp only [List.set_cons_zero]))
  refine takeL (i := 2) rfl (by kernel_rfl) (by kernel_rfl) (by kernel_rfl) (fun _ _ _ _ h => h) hHeld ?_ (Or.inl ⟨by rfl, ?_⟩) ?_
  rotate_left
  · intro W hW
    (try dsimp only at hW)
    first | (go_simp; done) | (go_simp; with_reducible rfl)
  ((try simp only [Act.put]); (try simp only [List.setIfInBounds_toArray]); (try simp only [List.set_cons_succ]); (try simp only [List.set_cons_zero]))
  refine takeL (i := 3) rfl (by kernel_rfl) (by kernel_rfl) (by kernel_rfl) (fun _ _ _ _ h => h) hHeld ?_ (Or.inl ⟨by rfl, ?_⟩) ?_
  rotate_left
  · intro W hW
    (try dsimp only at hW)
    first | (go_simp; done) | (go_simp; with_reducible rfl)
  ((try simp only [Act.put]); (try simp only [List.setIfInBounds_toArray]); (try simp only [List.set_cons_succ]); (try simp only [List.set_cons_zero]))
  refine takeL (i := 4) rfl (by kernel_rfl) (by kernel_rfl) (by kernel_rfl) (fun _ _ _ _ h => h) hHeld ?_ (Or.inl ⟨by rfl, ?_⟩) ?_
  rotate_left
  · intro W hW
    (try dsimp only at hW)
    first | (go_simp; done) | (go_simp; with_reducible rfl)
  ((try simp only [Act.put]); (try simp only [List.setIfInBounds_toArray]); (try simp only [List.set_cons_succ]); (try simp only [List.set_cons_zero]))
  refine takeL (i := 5) rfl (by kernel_rfl) (by kernel_rfl) (by kernel_rfl) (fun _ _ _ _ h => h) hHeld ?_ (Or.inl ⟨by rfl, ?_⟩) ?_
  rotate_left
  · intro W hW
    (try dsimp only at hW)
    first | (go_simp; done) | (go_simp; with_reducible rfl)
  ((try simp only [Act.put]); (try simp only [List.setIfInBounds_toArray]); (try simp only [List.set_cons_succ]); (try simp only [List.set_cons_zero]))
  refine callL (i := 6) rfl (by kernel_rfl) (fun K hK => ?_)
  rw [if_pos (by rfl)]
  obtain ⟨cc, w4, oo, hrun, H4, hrd⟩ := hcs.out _ _ H
  go_simp
  have hrd' := Lib.hid hrd
  clear H hHeld hrd hrun
  have H := H4
  clear H4
  generalize w3.heap.size = sb at *
  refine hK.out _ _ ?_ (fun hHeld => ?_)
  · exact hcv.out _ _ _ _ _ H (by first | exact .here _ _ | exact .there (.here _ _) | exact .there (.there (.here _ _)) | exact .there (.there (.there (.here _ _))) | exact .there (.there (.there (.there (.here _ _)))) | exact .there (.there (.there (.there (.there (.here _ _))))) | exact .there (.there (.there (.there (.there (.there (.here _ _)))))) | exact .there (.there (.there (.there (.there (.there (.there (.here _ _))))))) | exact .there (.there (.there (.there (.there (.there (.there (.there (.here _ _)))))))) | exact .there (.there (.there (.there (.there (.there (.there (.there (.there (.here _ _))))))))) | exact .there (.there (.there (.there (.there (.there (.there (.there (.there (.there (.here _ _)))))))))) | exact .there (.there (.there (.there (.there (.there (.there (.there (.there (.there (.there (.here _ _))))))))))) | exact .there (.there (.there (.there (.there (.there (.there (.there (.there (.there (.there (.there (.here _ _)))))))))))) | exact .there (.there (.there (.there (.there (.there (.there (.there (.there (.there (.there (.there (.there (.here _ _))))))))))))))
  clear hK K
  ((try simp only [Act.put]); (try simp only [List.setIfInBounds_toArray]); (try simp only [List.set_cons_succ]); (try simp only [List.set_cons_zero]))
  refine callL (i := 7) rfl (by kernel_rfl) (fun K hK => ?_)
  rw [if_pos (by rfl)]
  go_simp
  refine (hsl.out _ _ _ _ H hrd'.out (fun h => by cases h)).mono ?_
  rintro r w5 ⟨a', c', rfl, H5⟩
  clear H hHeld hrd'
  have H := H5
  clear H5
  refine hK.out _ _ ?_ (fun hHeld => ?_)
  · exact hcv.out _ _ _ _ _ H (by first | exact .here _ _ | exact .there (.here _ _) | exact .there (.there (.here _ _)) | exact .there (.there (.there (.here _ _))) | exact .there (.there (.there (.there (.here _ _)))) | exact .there (.there (.there (.there (.there (.here _ _))))) | exact .there (.there (.there (.there (.there (.there (.here _ _)))))) | exact .there (.there (.there (.there (.there (.there (.there (.here _ _))))))) | exact .there (.there (.there (.there (.there (.there (.there (.there (.here _ _)))))))) | exact .there (.there (.there (.there (.there (.there (.there (.there (.there (.here _ _))))))))) | exact .there (.there (.there (.there (.there (.there (.there (.there (.there (.there (.here _ _)))))))))) | exact .there (.there (.there (.there (.there (.there (.there (.there (.there (.there (.there (.here _ _))))))))))) | exact .there (.there (.there (.there (.there (.there (.there (.there (.there (.there (.there (.there (.here _ _)))))))))))) | exact .there (.there (.there (.there (.there (.there (.there (.there (.there (.there (.there (.there (.there (.here _ _))))))))))))))
  clear hK K
  ((try simp only [Act.put]); (try simp only [List.setIfInBounds_toArray]); (try simp only [List.set_cons_succ]); (try simp only [List.set_cons_zero]))
  refine callL (i := 8) rfl (by kernel_rfl) (fun K hK => ?_)
  rw [if_pos (by rfl)]
  have hx := hcv.out _ _ _ _ _ H (.here _ _)
  go_simp
  clear hx
  refine hK.out _ _ ?_ (fun hHeld => ?_)
  · exact hcv.out _ _ _ _ _ H (by first | exact .here _ _ | exact .there (.here _ _) | exact .there (.there (.here _ _)) | exact .there (.there (.there (.here _ _))) | exact .there (.there (.there (.there (.here _ _)))) | exact .there (.there (.there (.there (.there (.here _ _))))) | exact .there (.there (.there (.there (.there (.there (.here _ _)))))) | exact .there (.there (.there (.there (.there (.there (.there (.here _ _))))))) | exact .there (.there (.there (.there (.there (.there (.there (.there (.here _ _)))))))) | exact .there (.there (.there (.there (.there (.there (.there (.there (.there (.here _ _))))))))) | exact .there (.there (.there (.there (.there (.there (.there (.there (.there (.there (.here _ _)))))))))) | exact .there (.there (.there (.there (.there (.there (.there (.there (.there (.there (.there (.here _ _))))))))))) | exact .there (.there (.there (.there (.there (.there (.there (.there (.there (.there (.there (.there (.here _ _)))))))))))) | exact .there (.there (.there (.there (.there (.there (.there (.there (.there (.there (.there (.there (.there (.here _ _))))))))))))))
  clear hK K
  ((try simp only [Act.put]); (try simp only [List.setIfInBounds_toArray]); (try simp only [List.set_cons_succ]); (try simp only [List.set_cons_zero]))
  refine takeL (i := 9) rfl (by kernel_rfl) (by kernel_rfl) (by kernel_rfl) (fun _ _ _ _ h => h) hHeld ?_ (Or.inl ⟨by rfl, ?_⟩) ?_
  rotate_left
  · intro W hW
    (try dsimp only at hW)
    first | (go_simp; done) | (go_simp; with_reducible rfl)
  ((try simp only [Act.put]); (try simp only [List.setIfInBounds_toArray]); (try simp only [List.set_cons_succ]); (try simp only [List.set_cons_zero]))
  refine takeL (i := 10) rfl (by kernel_rfl) (by kernel_rfl) (by kernel_rfl) (fun _ _ _ _ h => h) hHeld ?_ (Or.inl ⟨by rfl, ?_⟩) ?_
  rotate_left
  · intro W hW
    (try dsimp only at hW)
    first | (go_simp; done) | (go_simp; with_reducible rfl)
  ((try simp only [Act.put]); (try simp only [List.setIfInBounds_toArray]); (try simp only [List.set_cons_succ]); (try simp only [List.set_cons_zero]))
  refine takeL (i := 11) rfl (by kernel_rfl) (by kernel_rfl) (by kernel_rfl) (fun _ _ _ _ h => h) hHeld ?_ (Or.inl ⟨by rfl, ?_⟩) ?_
  rotate_left
  · intro W hW
    (try dsimp only at hW)
    first | (go_simp; done) | (go_simp; with_reducible rfl)
  ((try simp only [Act.put]); (try simp only [List.setIfInBounds_toArray]); (try simp only [List.set_cons_succ]); (try simp only [List.set_cons_zero]))
  refine wpAnyH_done (by kernel_rfl) ?_ _
  have H' := Lib.hid H
  clear H hHeld
  go_wp2_with fail
  go_ret
  exact ⟨rfl, H'.out.tail.tail.tail.tail⟩
def gBeat : Gm := ⟨1, 1, 2, 300, 1, 0, 0, 0, []⟩
def gData : Gm := ⟨2, 0, 63, 0, 0, 5, 3, 2, [97, 98]⟩
theorem gBeat_ok : GmOk gBeat := by
  constructor <;> (first | (unfold I64; decide) | (unfold U64; decide) | (intro x hx; cases hx))
theorem gData_ok : GmOk gData := by
  constructor <;> (first | (unfold I64; decide) | (unfold U64; decide) | (intro x hx; simp [gData] at hx; unfold byteK; omega))
theorem gBeat_may : mayK gBeat := by decide
theorem gData_may : mayK gData := by decide
set_option maxRecDepth 100000 in
theorem beat_c {L : List Pc} {w : World} (H0 : SL w L) : Calls Tryd.prog 21 #[] w fun e w' => e = .returned (gmV gBeat (.slice none 0 0)) ∧ SL w' L := by
  have H := H0.alloc [.int .i64 1, .int .i64 2, .int .i64 1, .int .u64 300, .int .i64 1, .int .u64 0, .int .u64 0, .int .u64 0, .slice none 0 0] 25
  have hH := Lib.hid H
  (have C := H.cells; dsimp only [cellsOf, Pc.cells, cellsFrom, Nat.zero_add, Nat.reduceAdd] at C; (try simp only [true_and] at C); (try simp only [and_true] at C))
  have hC := Lib.hid C
  clear H H0 C
  go_enter Tryd.func21, Tryd.ntmps21
  go_wp2_with fail
  exact bodyPost_ret (v := gmV gBeat (.slice none 0 0)) (by simp [results, Tryd.results21, go_sem, hC.out, gmV, gBeat]) rfl ⟨rfl, hH.out.tail⟩
set_option maxRecDepth 100000 in
theorem data_c {L : List Pc} {w : World} (H0 : SL w L) : Calls Tryd.prog 42 #[] w fun e w' => ∃ b c o, e = .returned (gmV gData (.slice (some ⟨b, 0, none⟩) 2 c)) ∧ SL w' (.obj b o :: L) ∧ ∀ V, SL V (.obj b o :: L) → RdB V (some ⟨b, 0, none⟩) [97, 98] := by
  have kc := Go.Joins.run_convert_bytes_const_at (P := Tryd.prog) (w.alloc (.cells #[.int .i64 0, .int .i64 0, .int .i64 0, .int .u64 0, .int .i64 0, .int .u64 0, .int .u64 0, .int .u64 0, .slice none 0 0] 25)) 23 5 #[.int .u8 97, .int .u8 98] 2 2 (w.heap.size + 1) (by simp) Tryd.underlying23 Tryd.underlying5
  have hH := Lib.hid H0
  clear H0
  go_enter Tryd.func42, Tryd.ntmps42
  go_wp2_with fail
  have H1 := (hH.out.alloc [.int .i64 0, .int .i64 63, .int .i64 2, .int .u64 0, .int .i64 0, .int .u64 5, .int .u64 3, .int .u64 2, .slice (some ⟨w.heap.size + 1, 0, none⟩) 2 2] 25).allocO (.cells #[.int .u8 97, .int .u8 98] 5 (2, 3))
  rw [World.size_alloc] at H1
  have H := H1.pull (.there (.here _ _))
  have hK := Lib.hid H1
  (have C := H.cells; dsimp only [cellsOf, Pc.cells, cellsFrom, Nat.zero_add, Nat.reduceAdd] at C; (try simp only [true_and] at C); (try simp only [and_true] at C))
  exact bodyPost_ret (v := gmV gData (.slice (some ⟨w.heap.size + 1, 0, none⟩) 2 2)) (by simp [results, Tryd.results42, go_sem, C, gmV, gData]) rfl ⟨_, _, _, rfl, H.tail, fun V hV i hi => ⟨_, 0, rfl, by
    have h0 := hV.head
    have hi2 : i < 2 := hi
    obtain rfl | rfl : i = 0 ∨ i = 1 := by omega
    · exact blk_cell h0 0 _ rfl
    · exact blk_cell h0 1 _ rfl⟩⟩

set_option maxRecDepth 100000 in
set_option maxHeartbeats 4000000 in
theorem alive_c {L : List Pc} {w : World} (H : SL w L) (htab : ∀ V, SL V L → TabU V) : Calls Tryd.prog 19 #[] w fun e w' => e = .returned (.bool true) ∧ SL w' L := by
  have hb := Lib.hid (fun L w (h : SL w L) => beat_c h)
  have hd := Lib.hid (fun L w (h : SL w L) => data_c h)
  have ht := Lib.hid htab
  have h1 := Lib.hid (fun L w (h : SL w L) => told_c gBeat gBeat_ok gBeat_may none 0 0 h (fun _ => rfl) rfl (by decide) (fun V _ i hi => by cases hi) ⟨#[1, 1, 2, 172, 2, 1]⟩ (by decide +kernel))
  have h2 := Lib.hid (fun L w a c (h : SL w L) hr => told_c gData gData_ok gData_may (some a) 2 c h (fun h => by cases h) rfl (by decide) hr ⟨#[2, 0, 63, 0, 0, 5, 3, 2, 2, 97, 98]⟩ (by decide +kernel))
  have h3 := Lib.hid (fun L w a c (h : SL w L) ht => txt_c gData gData_ok (some a) c h (by decide) ht)
  have hl : lineS gData = ⟨#[100, 97, 116, 97, 32, 48, 32, 54, 51, 32, 48, 32, 48, 32, 53, 32, 51, 32, 50, 32, 50]⟩ := by decide +kernel
  rw [hl] at h3
  have hln : gData.data.length = 2 := rfl
  rw [hln] at h3
  have hgb : gmV gBeat (.slice none 0 0) = .agg #[.int .i64 1, .int .i64 2, .int .i64 1, .int .u64 300, .int .i64 1, .int .u64 0, .int .u64 0, .int .u64 0, .slice none 0 0] := rfl
  have hgd : ∀ d, gmV gData d = .agg #[.int .i64 0, .int .i64 63, .int .i64 2, .int .u64 0, .int .i64 0, .int .u64 5, .int .u64 3, .int .u64 2, d] := fun d => rfl
  rw [hgb] at hb h1
  simp only [hgd] at hd h2 h3
  have hH := Lib.hid H
  clear H hl hln hgb hgd htab
  go_enter Tryd.func19, Tryd.ntmps19
  go_wp2_with fail
  refine (hb.out _ _ hH.out).mono ?_
  rintro e w1 ⟨rfl, H⟩
  replace hH := Lib.hid H
  clear H
  go_wp2_with fail
  refine (h1.out _ _ hH.out).mono ?_
  rintro e w2 ⟨rfl, H⟩
  replace hH := Lib.hid H
  clear H
  go_wp2_with fail
  refine (hd.out _ _ hH.out).mono ?_
  rintro e w3 ⟨b, c, o, rfl, H, hr⟩
  replace hH := Lib.hid H
  have hr' := Lib.hid hr
  clear H hr
  go_wp2_with fail
  refine (h2.out _ _ _ _ hH.out hr'.out).mono ?_
  rintro e w4 ⟨rfl, H⟩
  replace hH := Lib.hid H
  clear H
  go_wp2_with fail
  refine (hd.out _ _ hH.out).mono ?_
  rintro e w5 ⟨b', c', o', rfl, H, hr⟩
  replace hH := Lib.hid H
  clear H hr hr'
  go_wp2_with fail
  refine (h3.out _ _ _ _ hH.out (fun V hV => ht.out V hV.tail.tail)).mono ?_
  rintro e w6 ⟨rfl, H⟩
  replace hH := Lib.hid H
  clear H
  go_wp2_with fail
  go_ret
  exact ⟨rfl, hH.out.tail.tail⟩
end Go.Proofs.YtilpkfgdlehmpaaDoor
