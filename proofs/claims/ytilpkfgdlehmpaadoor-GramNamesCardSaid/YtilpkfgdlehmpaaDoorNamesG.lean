/- The walk of GramNames. -/
import Derived.Test.YtilpkfgdlehmpaaDoorNamesL
import Derived.Test.YtilpkfgdlehmpaaDoorOrderApp
import Derived.Test.YtilpkfgdlehmpaaDoorReg
namespace Go.Proofs.YtilpkfgdlehmpaaDoor
open Go.RowKit Go.Shelf
set_option linter.unusedVariables false

theorem for_g {a : Option Addr} {n c : Nat} {bs : List Int} {w : World} {L : List Pc} (x y : Int) (g : Gm) (E : Int) (H : SL w L) (hR : forR bs x y = (g, E)) (hl : bs.length = n) (hn : n ≤ 6000) (hc : n ≤ c) (hcm : c ≤ 9223372036854775807) (hb : RdB w a bs) (hy : ∀ x ∈ bs, byteK x) (m : Nat) (hm : g.data.length = m) :
    Calls Tryd.prog 22 #[.slice a n c, .int .i64 x, .int .i64 y] w fun e w' => ∃ a' c', e = .returned (.tuple #[gmV g (.slice a' m c'), .int .i64 E]) ∧ SL w' (.own 5 1 (.slice a' m c') m (bv g.data) :: L) := by
  subst hm
  have h := for_c x y H hl hn hc hcm hb hy
  rw [hR] at h
  exact h
theorem forB1 : forR (sealI (encI gBeat)) 2 1 = (Gm0, 180) := by
  unfold forR; rw [dec_enc gBeat_ok gBeat_may, if_pos ⟨rfl, by decide⟩]
theorem forB2 : forR (sealI (encI gBeat)) 1 2 = (gBeat, 0) := by
  unfold forR; rw [dec_enc gBeat_ok gBeat_may, if_neg (by decide)]
theorem forB3 : forR [] 1 2 = (Gm0, 40) := by
  have h : decR [] = (Gm0, 40) := decR_no (by decide)
  unfold forR; rw [h, if_neg (by decide)]
theorem text_no (k : Nat) (a : Option Addr) (n c : Nat) {L : List Pc} {w : World} (H : SL w L) (hn : (gBad k).data.length = n) (hl : n ≤ 1000) (htab : ∀ V, SL V L → TabU V) :
    Calls Tryd.prog 13 #[gmV (gBad k) (.slice a n c)] w fun e w' => e = .returned (.string { data := #[] }) ∧ SL w' L := by
  subst hn
  have h := txt_c (gBad k) (gBad_ok k) a c H hl htab
  have e : lineS (gBad k) = ⟨#[]⟩ := by unfold lineS; rw [if_neg (gBad_no k)]
  rw [e] at h
  exact h
theorem chk_no (k : Nat) (a : Option Addr) (n c : Nat) {L : List Pc} {w : World} (H : SL w L) (hn : (gBad k).data.length = n) :
    Calls Tryd.prog 11 #[gmV (gBad k) (.slice a n c)] w fun e w' => e = .returned (.int .i64 180) ∧ SL w' L := by
  subst hn
  exact chk_c (gBad k) (gBad_ok k) a c H 180 (by rw [if_neg (gBad_no k)])
theorem chk_yes (k : Nat) (a : Option Addr) (n c : Nat) {L : List Pc} {w : World} (H : SL w L) (hn : (gFine k).data.length = n) :
    Calls Tryd.prog 11 #[gmV (gFine k) (.slice a n c)] w fun e w' => e = .returned (.int .i64 0) ∧ SL w' L := by
  subst hn
  exact chk_c (gFine k) (gFine_ok k) a c H 0 (by rw [if_pos (gFine_may k)])
def badC (D M : Nat) : List Value := [.int .i64 0, .int .i64 0, .int .i64 0, .int .u64 0, .int .i64 0, .int .u64 0, .int .u64 0, .int .u64 0, .slice none 0 0, .int .i64 0, .int .i64 0, .int .i64 1, .int .u64 0, .int .i64 0, .int .u64 0, .int .u64 0, .int .u64 0, .slice none 0 0, .int .i64 1, .int .i64 1, .int .i64 1, .int .u64 0, .int .i64 0, .int .u64 0, .int .u64 0, .int .u64 0, .slice none 0 0, .int .i64 0, .int .i64 1, .int .i64 3, .int .u64 0, .int .i64 0, .int .u64 1, .int .u64 0, .int .u64 0, .slice none 0 0, .int .i64 0, .int .i64 1, .int .i64 4, .int .u64 0, .int .i64 0, .int .u64 0, .int .u64 0, .int .u64 0, .slice none 0 0, .int .i64 0, .int .i64 64, .int .i64 1, .int .u64 0, .int .i64 0, .int .u64 0, .int .u64 0, .int .u64 0, .slice none 0 0, .int .i64 0, .int .i64 1, .int .i64 1, .int .u64 0, .int .i64 (-1), .int .u64 0, .int .u64 0, .int .u64 0, .slice none 0 0, .int .i64 0, .int .i64 1, .int .i64 1, .int .u64 0, .int .i64 0, .int .u64 0, .int .u64 1, .int .u64 0, .slice none 0 0, .int .i64 0, .int .i64 1, .int .i64 3, .int .u64 0, .int .i64 0, .int .u64 0, .int .u64 0, .int .u64 0, .slice (some ⟨D, 0, none⟩) 1 1, .int .i64 0, .int .i64 1, .int .i64 2, .int .u64 0, .int .i64 0, .int .u64 4611686018427387904, .int .u64 0, .int .u64 0, .slice none 0 0, .int .i64 0, .int .i64 1, .int .i64 2, .int .u64 0, .int .i64 0, .int .u64 0, .int .u64 4611686018427387905, .int .u64 0, .slice none 0 0, .int .i64 0, .int .i64 1, .int .i64 3, .int .u64 0, .int .i64 0, .int .u64 0, .int .u64 0, .int .u64 9223372036854775808, .slice none 0 0, .int .i64 0, .int .i64 1, .int .i64 2, .int .u64 0, .int .i64 0, .int .u64 0, .int .u64 0, .int .u64 0, .slice (some ⟨M, 0, none⟩) 901 901]
def fineC (D M : Nat) : List Value := [.int .i64 0, .int .i64 1, .int .i64 2, .int .u64 0, .int .i64 0, .int .u64 4611686018427387903, .int .u64 4611686018427387904, .int .u64 9223372036854775807, .slice (some ⟨M, 0, none⟩) 900 900, .int .i64 63, .int .i64 0, .int .i64 3, .int .u64 18446744073709551615, .int .i64 63, .int .u64 0, .int .u64 0, .int .u64 0, .slice none 0 0, .int .i64 0, .int .i64 1, .int .i64 1, .int .u64 0, .int .i64 0, .int .u64 0, .int .u64 0, .int .u64 0, .slice (some ⟨D, 0, none⟩) 0 0]

set_option maxRecDepth 100000 in
set_option maxHeartbeats 40000000 in
theorem names_c (w : World) (tab : TabU w) : Calls Tryd.prog 6 #[] w fun e w' => e = .returned (.bool true) ∧ Kp no w w' := by
  have hmx : Tryd.prog.follows .mixedOrders = true := by kernel_rfl
  have htab : Hid (∀ V M M', SL V M → Pull M (.old w no) M' → TabU V) := Lib.hid fun V M M' h hp => tabU_no tab (h.kp hp)
  have hH := Lib.hid (SL.start w)
  clear tab
  go_enter Tryd.func6, Tryd.ntmps6
  go_wp2_with fail
  refine (beat_c hH.out).mono ?_
  rintro e w1 ⟨rfl, H⟩
  clear hH
  have hH := Lib.hid H
  clear H
  dsimp only [gmV, gBeat]
  go_wp2_with fail
  refine (enc_yes gBeat gBeat_ok gBeat_may none 0 0 10 hH.out (by rw [sealI_len]; decide +kernel) rfl (fun _ => rfl) (by decide) (fun V _ i hi => by cases hi)).mono ?_
  rintro e w2 ⟨ea, ec, rfl, H⟩
  clear hH
  have hH := Lib.hid H
  have hIl : Hid ((sealI (encI gBeat)).length = 10) := Lib.hid (by rw [sealI_len]; decide +kernel)
  have hIy := Lib.hid (sealI_bytes (encI gBeat))
  have hf1 := Lib.hid forB1
  have hf2 := Lib.hid forB2
  clear H
  generalize sealI (encI gBeat) = I at *
  obtain ⟨f1, f2, f3, f4⟩ := own_facts hH.out (.here _ _)
  have f2' := Lib.hid f2
  clear f2 f3 f4
  go_wp2_with fail
  refine (for_g 2 1 Gm0 180 hH.out hf1.out hIl.out (by omega) f1 f2'.out (own_facts hH.out (.here _ _)).2.2.2 hIy.out 0 rfl).mono ?_
  rintro e w3 ⟨ja, jc, rfl, H⟩
  clear hH
  dsimp only [gmV, Gm0]
  have hH := Lib.hid ((H.alloc [.int .i64 0, .int .i64 0, .int .i64 0, .int .u64 0, .int .i64 0, .int .u64 0, .int .u64 0, .int .u64 0, .slice ja 0 jc] 25).re (.drop (.drop (.same _))))
  dsimp only [List.toArray] at hH
  clear H
  go_wp2_with fail
  generalize w3.alloc (.cells #[.int .i64 0, .int .i64 0, .int .i64 0, .int .u64 0, .int .i64 0, .int .u64 0, .int .u64 0, .int .u64 0, .slice ja 0 jc] 25) = w4 at *
  generalize w3.heap.size = Y3 at *
  refine (for_g 1 2 gBeat 0 hH.out hf2.out hIl.out (by omega) f1 f2'.out (own_facts hH.out (.here _ _)).2.2.2 hIy.out 0 rfl).mono ?_
  rintro e w5 ⟨ka, kc, rfl, H⟩
  clear hH
  dsimp only [gmV, gBeat]
  have hH := Lib.hid ((H.alloc [.int .i64 1, .int .i64 2, .int .i64 1, .int .u64 300, .int .i64 1, .int .u64 0, .int .u64 0, .int .u64 0, .slice ka 0 kc] 25).re (.step (.here _ _) (.drop (.drop (.same _)))))
  dsimp only [List.toArray] at hH
  clear H
  go_wp2_with fail
  generalize w5.alloc (.cells #[.int .i64 1, .int .i64 2, .int .i64 1, .int .u64 300, .int .i64 1, .int .u64 0, .int .u64 0, .int .u64 0, .slice ka 0 kc] 25) = w6 at *
  generalize w5.heap.size = Y5 at *
  refine (for_g (a := none) (c := 0) 1 2 Gm0 40 hH.out forB3 rfl (by decide) (by decide) (by decide) (fun i hi => by cases hi) (fun x hx => by cases hx) 0 rfl).mono ?_
  rintro e w7 ⟨ja', jc', rfl, H⟩
  clear hH
  dsimp only [gmV, Gm0]
  have hH := Lib.hid ((H.alloc [.int .i64 0, .int .i64 0, .int .i64 0, .int .u64 0, .int .i64 0, .int .u64 0, .int .u64 0, .int .u64 0, .slice ja' 0 jc'] 25).re (.drop (.drop (.same _))))
  dsimp only [List.toArray] at hH
  clear H hIl hIy hf1 hf2 f1 f2'
  go_upto_region 6 with (fail)
  generalize w7.alloc (.cells #[.int .i64 0, .int .i64 0, .int .i64 0, .int .u64 0, .int .i64 0, .int .u64 0, .int .u64 0, .int .u64 0, .slice ja' 0 jc'] 25) = w8 at *
  have H9 := hH.out.alloc [.int .u8 1] 5
  obtain ⟨w9, hr0, H10⟩ := H9.made elemB .i64 .i64 901 (by omega) (by simp only [maxLen]; omega)
  rw [World.size_alloc] at hr0 H10
  have hr : (Instr.makeSlice 23 (.int .i64 901) (.int .i64 901)).run Tryd.prog (w8.alloc (.cells #[.int .u8 1] 5)) = .ok (.slice (some ⟨w8.heap.size + 1, 0, none⟩) 901 901) w9 := hr0
  have H11 := H10.alloc [.int .i64 0, .int .i64 0, .int .i64 0, .int .u64 0, .int .i64 0, .int .u64 0, .int .u64 0, .int .u64 0, .slice none 0 0, .int .i64 0, .int .i64 0, .int .i64 1, .int .u64 0, .int .i64 0, .int .u64 0, .int .u64 0, .int .u64 0, .slice none 0 0, .int .i64 1, .int .i64 1, .int .i64 1, .int .u64 0, .int .i64 0, .int .u64 0, .int .u64 0, .int .u64 0, .slice none 0 0, .int .i64 0, .int .i64 1, .int .i64 3, .int .u64 0, .int .i64 0, .int .u64 1, .int .u64 0, .int .u64 0, .slice none 0 0, .int .i64 0, .int .i64 1, .int .i64 4, .int .u64 0, .int .i64 0, .int .u64 0, .int .u64 0, .int .u64 0, .slice none 0 0, .int .i64 0, .int .i64 64, .int .i64 1, .int .u64 0, .int .i64 0, .int .u64 0, .int .u64 0, .int .u64 0, .slice none 0 0, .int .i64 0, .int .i64 1, .int .i64 1, .int .u64 0, .int .i64 (-1), .int .u64 0, .int .u64 0, .int .u64 0, .slice none 0 0, .int .i64 0, .int .i64 1, .int .i64 1, .int .u64 0, .int .i64 0, .int .u64 0, .int .u64 1, .int .u64 0, .slice none 0 0, .int .i64 0, .int .i64 1, .int .i64 3, .int .u64 0, .int .i64 0, .int .u64 0, .int .u64 0, .int .u64 0, .slice (some ⟨w8.heap.size, 0, none⟩) 1 1, .int .i64 0, .int .i64 1, .int .i64 2, .int .u64 0, .int .i64 0, .int .u64 4611686018427387904, .int .u64 0, .int .u64 0, .slice none 0 0, .int .i64 0, .int .i64 1, .int .i64 2, .int .u64 0, .int .i64 0, .int .u64 0, .int .u64 4611686018427387905, .int .u64 0, .slice none 0 0, .int .i64 0, .int .i64 1, .int .i64 3, .int .u64 0, .int .i64 0, .int .u64 0, .int .u64 0, .int .u64 9223372036854775808, .slice none 0 0, .int .i64 0, .int .i64 1, .int .i64 2, .int .u64 0, .int .i64 0, .int .u64 0, .int .u64 0, .int .u64 0, .slice (some ⟨w8.heap.size + 1, 0, none⟩) 901 901] 25
  clear hH
  have hH := Lib.hid H11
  dsimp only [List.toArray] at hH
  clear H9 H10 H11 hr0
  go_wp2_with fail
  generalize w9.alloc (.cells #[.int .i64 0, .int .i64 0, .int .i64 0, .int .u64 0, .int .i64 0, .int .u64 0, .int .u64 0, .int .u64 0, .slice none 0 0, .int .i64 0, .int .i64 0, .int .i64 1, .int .u64 0, .int .i64 0, .int .u64 0, .int .u64 0, .int .u64 0, .slice none 0 0, .int .i64 1, .int .i64 1, .int .i64 1, .int .u64 0, .int .i64 0, .int .u64 0, .int .u64 0, .int .u64 0, .slice none 0 0, .int .i64 0, .int .i64 1, .int .i64 3, .int .u64 0, .int .i64 0, .int .u64 1, .int .u64 0, .int .u64 0, .slice none 0 0, .int .i64 0, .int .i64 1, .int .i64 4, .int .u64 0, .int .i64 0, .int .u64 0, .int .u64 0, .int .u64 0, .slice none 0 0, .int .i64 0, .int .i64 64, .int .i64 1, .int .u64 0, .int .i64 0, .int .u64 0, .int .u64 0, .int .u64 0, .slice none 0 0, .int .i64 0, .int .i64 1, .int .i64 1, .int .u64 0, .int .i64 (-1), .int .u64 0, .int .u64 0, .int .u64 0, .slice none 0 0, .int .i64 0, .int .i64 1, .int .i64 1, .int .u64 0, .int .i64 0, .int .u64 0, .int .u64 1, .int .u64 0, .slice none 0 0, .int .i64 0, .int .i64 1, .int .i64 3, .int .u64 0, .int .i64 0, .int .u64 0, .int .u64 0, .int .u64 0, .slice (some ⟨w8.heap.size, 0, none⟩) 1 1, .int .i64 0, .int .i64 1, .int .i64 2, .int .u64 0, .int .i64 0, .int .u64 4611686018427387904, .int .u64 0, .int .u64 0, .slice none 0 0, .int .i64 0, .int .i64 1, .int .i64 2, .int .u64 0, .int .i64 0, .int .u64 0, .int .u64 4611686018427387905, .int .u64 0, .slice none 0 0, .int .i64 0, .int .i64 1, .int .i64 3, .int .u64 0, .int .i64 0, .int .u64 0, .int .u64 0, .int .u64 9223372036854775808, .slice none 0 0, .int .i64 0, .int .i64 1, .int .i64 2, .int .u64 0, .int .i64 0, .int .u64 0, .int .u64 0, .int .u64 0, .slice (some ⟨w8.heap.size + 1, 0, none⟩) 901 901] 25) = w10 at *
  generalize w9.heap.size = A at *
  generalize w8.heap.size + 1 = M at *
  generalize w8.heap.size = D at *
  clear hr
  generalize hR : madeCells _ _ = R at *
  clear hR
  go_loopw [53, 9] (fun i b wr => ∃ k : Nat, k ≤ 13 ∧ i = .int .i64 k ∧ b = .bool true ∧ Hid (SL wr (.blk A (badC D M) 25 :: .own 5 1 (.slice (some ⟨M, 0, none⟩) 901 901) 901 R.toList :: .blk D [.int .u8 1] 5 :: [.blk Y5 [.int .i64 1, .int .i64 2, .int .i64 1, .int .u64 300, .int .i64 1, .int .u64 0, .int .u64 0, .int .u64 0, .slice ka 0 kc] 25, .old w no]))) (fun i _ _ => 13 - (intOf i).toNat)
  case atStart => exact ⟨0, by omega, rfl, rfl, hH⟩
  case round =>
    clear hH
    obtain ⟨k, hk, rfl, rfl, hH⟩ := hrel
    obtain rfl | rfl | rfl | rfl | rfl | rfl | rfl | rfl | rfl | rfl | rfl | rfl | rfl | rfl : k = 0 ∨ k = 1 ∨ k = 2 ∨ k = 3 ∨ k = 4 ∨ k = 5 ∨ k = 6 ∨ k = 7 ∨ k = 8 ∨ k = 9 ∨ k = 10 ∨ k = 11 ∨ k = 12 ∨ k = 13 := by omega
    · have q0 := hH.out.cell (b := A) (o := 0) (.here _ _) rfl
      have q1 := hH.out.cell (b := A) (o := 1) (.here _ _) rfl
      have q2 := hH.out.cell (b := A) (o := 2) (.here _ _) rfl
      have q3 := hH.out.cell (b := A) (o := 3) (.here _ _) rfl
      have q4 := hH.out.cell (b := A) (o := 4) (.here _ _) rfl
      have q5 := hH.out.cell (b := A) (o := 5) (.here _ _) rfl
      have q6 := hH.out.cell (b := A) (o := 6) (.here _ _) rfl
      have q7 := hH.out.cell (b := A) (o := 7) (.here _ _) rfl
      have q8 := hH.out.cell (b := A) (o := 8) (.here _ _) rfl
      have hlt := blk_lt hH.out.head
      go_wp2_with fail
      have H1 := hH.out.alloc [.int .i64 0, .int .i64 0, .int .i64 0, .int .u64 0, .int .i64 0, .int .u64 0, .int .u64 0, .int .u64 0, .slice none 0 0] 25
      dsimp only [List.toArray] at H1
      clear q0 q1 q2 q3 q4 q5 q6 q7 q8 hlt hH
      generalize wr.alloc (.cells #[.int .i64 0, .int .i64 0, .int .i64 0, .int .u64 0, .int .i64 0, .int .u64 0, .int .u64 0, .int .u64 0, .slice none 0 0] 25) = v1 at *
      generalize wr.heap.size = B at *
      refine (chk_no 0 none 0 0 H1 rfl).mono ?_
      rintro e v2 ⟨rfl, H2⟩
      clear H1
      have hH := Lib.hid H2
      have q0 := H2.cell (b := B) (o := 0) (.here _ _) rfl
      have q1 := H2.cell (b := B) (o := 1) (.here _ _) rfl
      have q2 := H2.cell (b := B) (o := 2) (.here _ _) rfl
      have q3 := H2.cell (b := B) (o := 3) (.here _ _) rfl
      have q4 := H2.cell (b := B) (o := 4) (.here _ _) rfl
      have q5 := H2.cell (b := B) (o := 5) (.here _ _) rfl
      have q6 := H2.cell (b := B) (o := 6) (.here _ _) rfl
      have q7 := H2.cell (b := B) (o := 7) (.here _ _) rfl
      have q8 := H2.cell (b := B) (o := 8) (.here _ _) rfl
      clear H2
      go_wp2_with fail
      refine (text_no 0 none 0 0 hH.out rfl (by decide) (fun V hV => htab.out _ _ _ hV (.there (.there (.there (.there (.there (.here _ _)))))))).mono ?_
      rintro e v3 ⟨rfl, H3⟩
      clear q0 q1 q2 q3 q4 q5 q6 q7 q8 hH
      have hH := Lib.hid H3
      clear H3
      go_wp2_with fail
      go_roundw
      case rel => exact ⟨1, by omega, rfl, rfl, Lib.hid hH.out.tail⟩
      case measure => (simp [intOf]; try omega)
    · have q0 := hH.out.cell (b := A) (o := 9) (.here _ _) rfl
      have q1 := hH.out.cell (b := A) (o := 10) (.here _ _) rfl
      have q2 := hH.out.cell (b := A) (o := 11) (.here _ _) rfl
      have q3 := hH.out.cell (b := A) (o := 12) (.here _ _) rfl
      have q4 := hH.out.cell (b := A) (o := 13) (.here _ _) rfl
      have q5 := hH.out.cell (b := A) (o := 14) (.here _ _) rfl
      have q6 := hH.out.cell (b := A) (o := 15) (.here _ _) rfl
      have q7 := hH.out.cell (b := A) (o := 16) (.here _ _) rfl
      have q8 := hH.out.cell (b := A) (o := 17) (.here _ _) rfl
      have hlt := blk_lt hH.out.head
      go_wp2_with fail
      have H1 := hH.out.alloc [.int .i64 0, .int .i64 0, .int .i64 1, .int .u64 0, .int .i64 0, .int .u64 0, .int .u64 0, .int .u64 0, .slice none 0 0] 25
      dsimp only [List.toArray] at H1
      clear q0 q1 q2 q3 q4 q5 q6 q7 q8 hlt hH
      generalize wr.alloc (.cells #[.int .i64 0, .int .i64 0, .int .i64 1, .int .u64 0, .int .i64 0, .int .u64 0, .int .u64 0, .int .u64 0, .slice none 0 0] 25) = v1 at *
      generalize wr.heap.size = B at *
      refine (chk_no 1 none 0 0 H1 rfl).mono ?_
      rintro e v2 ⟨rfl, H2⟩
      clear H1
      have hH := Lib.hid H2
      have q0 := H2.cell (b := B) (o := 0) (.here _ _) rfl
      have q1 := H2.cell (b := B) (o := 1) (.here _ _) rfl
      have q2 := H2.cell (b := B) (o := 2) (.here _ _) rfl
      have q3 := H2.cell (b := B) (o := 3) (.here _ _) rfl
      have q4 := H2.cell (b := B) (o := 4) (.here _ _) rfl
      have q5 := H2.cell (b := B) (o := 5) (.here _ _) rfl
      have q6 := H2.cell (b := B) (o := 6) (.here _ _) rfl
      have q7 := H2.cell (b := B) (o := 7) (.here _ _) rfl
      have q8 := H2.cell (b := B) (o := 8) (.here _ _) rfl
      clear H2
      go_wp2_with fail
      refine (text_no 1 none 0 0 hH.out rfl (by decide) (fun V hV => htab.out _ _ _ hV (.there (.there (.there (.there (.there (.here _ _)))))))).mono ?_
      rintro e v3 ⟨rfl, H3⟩
      clear q0 q1 q2 q3 q4 q5 q6 q7 q8 hH
      have hH := Lib.hid H3
      clear H3
      go_wp2_with fail
      go_roundw
      case rel => exact ⟨2, by omega, rfl, rfl, Lib.hid hH.out.tail⟩
      case measure => (simp [intOf]; try omega)
    · have q0 := hH.out.cell (b := A) (o := 18) (.here _ _) rfl
      have q1 := hH.out.cell (b := A) (o := 19) (.here _ _) rfl
      have q2 := hH.out.cell (b := A) (o := 20) (.here _ _) rfl
      have q3 := hH.out.cell (b := A) (o := 21) (.here _ _) rfl
      have q4 := hH.out.cell (b := A) (o := 22) (.here _ _) rfl
      have q5 := hH.out.cell (b := A) (o := 23) (.here _ _) rfl
      have q6 := hH.out.cell (b := A) (o := 24) (.here _ _) rfl
      have q7 := hH.out.cell (b := A) (o := 25) (.here _ _) rfl
      have q8 := hH.out.cell (b := A) (o := 26) (.here _ _) rfl
      have hlt := blk_lt hH.out.head
      go_wp2_with fail
      have H1 := hH.out.alloc [.int .i64 1, .int .i64 1, .int .i64 1, .int .u64 0, .int .i64 0, .int .u64 0, .int .u64 0, .int .u64 0, .slice none 0 0] 25
      dsimp only [List.toArray] at H1
      clear q0 q1 q2 q3 q4 q5 q6 q7 q8 hlt hH
      generalize wr.alloc (.cells #[.int .i64 1, .int .i64 1, .int .i64 1, .int .u64 0, .int .i64 0, .int .u64 0, .int .u64 0, .int .u64 0, .slice none 0 0] 25) = v1 at *
      generalize wr.heap.size = B at *
      refine (chk_no 2 none 0 0 H1 rfl).mono ?_
      rintro e v2 ⟨rfl, H2⟩
      clear H1
      have hH := Lib.hid H2
      have q0 := H2.cell (b := B) (o := 0) (.here _ _) rfl
      have q1 := H2.cell (b := B) (o := 1) (.here _ _) rfl
      have q2 := H2.cell (b := B) (o := 2) (.here _ _) rfl
      have q3 := H2.cell (b := B) (o := 3) (.here _ _) rfl
      have q4 := H2.cell (b := B) (o := 4) (.here _ _) rfl
      have q5 := H2.cell (b := B) (o := 5) (.here _ _) rfl
      have q6 := H2.cell (b := B) (o := 6) (.here _ _) rfl
      have q7 := H2.cell (b := B) (o := 7) (.here _ _) rfl
      have q8 := H2.cell (b := B) (o := 8) (.here _ _) rfl
      clear H2
      go_wp2_with fail
      refine (text_no 2 none 0 0 hH.out rfl (by decide) (fun V hV => htab.out _ _ _ hV (.there (.there (.there (.there (.there (.here _ _)))))))).mono ?_
      rintro e v3 ⟨rfl, H3⟩
      clear q0 q1 q2 q3 q4 q5 q6 q7 q8 hH
      have hH := Lib.hid H3
      clear H3
      go_wp2_with fail
      go_roundw
      case rel => exact ⟨3, by omega, rfl, rfl, Lib.hid hH.out.tail⟩
      case measure => (simp [intOf]; try omega)
    · have q0 := hH.out.cell (b := A) (o := 27) (.here _ _) rfl
      have q1 := hH.out.cell (b := A) (o := 28) (.here _ _) rfl
      have q2 := hH.out.cell (b := A) (o := 29) (.here _ _) rfl
      have q3 := hH.out.cell (b := A) (o := 30) (.here _ _) rfl
      have q4 := hH.out.cell (b := A) (o := 31) (.here _ _) rfl
      have q5 := hH.out.cell (b := A) (o := 32) (.here _ _) rfl
      have q6 := hH.out.cell (b := A) (o := 33) (.here _ _) rfl
      have q7 := hH.out.cell (b := A) (o := 34) (.here _ _) rfl
      have q8 := hH.out.cell (b := A) (o := 35) (.here _ _) rfl
      have hlt := blk_lt hH.out.head
      go_wp2_with fail
      have H1 := hH.out.alloc [.int .i64 0, .int .i64 1, .int .i64 3, .int .u64 0, .int .i64 0, .int .u64 1, .int .u64 0, .int .u64 0, .slice none 0 0] 25
      dsimp only [List.toArray] at H1
      clear q0 q1 q2 q3 q4 q5 q6 q7 q8 hlt hH
      generalize wr.alloc (.cells #[.int .i64 0, .int .i64 1, .int .i64 3, .int .u64 0, .int .i64 0, .int .u64 1, .int .u64 0, .int .u64 0, .slice none 0 0] 25) = v1 at *
      generalize wr.heap.size = B at *
      refine (chk_no 3 none 0 0 H1 rfl).mono ?_
      rintro e v2 ⟨rfl, H2⟩
      clear H1
      have hH := Lib.hid H2
      have q0 := H2.cell (b := B) (o := 0) (.here _ _) rfl
      have q1 := H2.cell (b := B) (o := 1) (.here _ _) rfl
      have q2 := H2.cell (b := B) (o := 2) (.here _ _) rfl
      have q3 := H2.cell (b := B) (o := 3) (.here _ _) rfl
      have q4 := H2.cell (b := B) (o := 4) (.here _ _) rfl
      have q5 := H2.cell (b := B) (o := 5) (.here _ _) rfl
      have q6 := H2.cell (b := B) (o := 6) (.here _ _) rfl
      have q7 := H2.cell (b := B) (o := 7) (.here _ _) rfl
      have q8 := H2.cell (b := B) (o := 8) (.here _ _) rfl
      clear H2
      go_wp2_with fail
      refine (text_no 3 none 0 0 hH.out rfl (by decide) (fun V hV => htab.out _ _ _ hV (.there (.there (.there (.there (.there (.here _ _)))))))).mono ?_
      rintro e v3 ⟨rfl, H3⟩
      clear q0 q1 q2 q3 q4 q5 q6 q7 q8 hH
      have hH := Lib.hid H3
      clear H3
      go_wp2_with fail
      go_roundw
      case rel => exact ⟨4, by omega, rfl, rfl, Lib.hid hH.out.tail⟩
      case measure => (simp [intOf]; try omega)
    · have q0 := hH.out.cell (b := A) (o := 36) (.here _ _) rfl
      have q1 := hH.out.cell (b := A) (o := 37) (.here _ _) rfl
      have q2 := hH.out.cell (b := A) (o := 38) (.here _ _) rfl
      have q3 := hH.out.cell (b := A) (o := 39) (.here _ _) rfl
      have q4 := hH.out.cell (b := A) (o := 40) (.here _ _) rfl
      have q5 := hH.out.cell (b := A) (o := 41) (.here _ _) rfl
      have q6 := hH.out.cell (b := A) (o := 42) (.here _ _) rfl
      have q7 := hH.out.cell (b := A) (o := 43) (.here _ _) rfl
      have q8 := hH.out.cell (b := A) (o := 44) (.here _ _) rfl
      have hlt := blk_lt hH.out.head
      go_wp2_with fail
      have H1 := hH.out.alloc [.int .i64 0, .int .i64 1, .int .i64 4, .int .u64 0, .int .i64 0, .int .u64 0, .int .u64 0, .int .u64 0, .slice none 0 0] 25
      dsimp only [List.toArray] at H1
      clear q0 q1 q2 q3 q4 q5 q6 q7 q8 hlt hH
      generalize wr.alloc (.cells #[.int .i64 0, .int .i64 1, .int .i64 4, .int .u64 0, .int .i64 0, .int .u64 0, .int .u64 0, .int .u64 0, .slice none 0 0] 25) = v1 at *
      generalize wr.heap.size = B at *
      refine (chk_no 4 none 0 0 H1 rfl).mono ?_
      rintro e v2 ⟨rfl, H2⟩
      clear H1
      have hH := Lib.hid H2
      have q0 := H2.cell (b := B) (o := 0) (.here _ _) rfl
      have q1 := H2.cell (b := B) (o := 1) (.here _ _) rfl
      have q2 := H2.cell (b := B) (o := 2) (.here _ _) rfl
      have q3 := H2.cell (b := B) (o := 3) (.here _ _) rfl
      have q4 := H2.cell (b := B) (o := 4) (.here _ _) rfl
      have q5 := H2.cell (b := B) (o := 5) (.here _ _) rfl
      have q6 := H2.cell (b := B) (o := 6) (.here _ _) rfl
      have q7 := H2.cell (b := B) (o := 7) (.here _ _) rfl
      have q8 := H2.cell (b := B) (o := 8) (.here _ _) rfl
      clear H2
      go_wp2_with fail
      refine (text_no 4 none 0 0 hH.out rfl (by decide) (fun V hV => htab.out _ _ _ hV (.there (.there (.there (.there (.there (.here _ _)))))))).mono ?_
      rintro e v3 ⟨rfl, H3⟩
      clear q0 q1 q2 q3 q4 q5 q6 q7 q8 hH
      have hH := Lib.hid H3
      clear H3
      go_wp2_with fail
      go_roundw
      case rel => exact ⟨5, by omega, rfl, rfl, Lib.hid hH.out.tail⟩
      case measure => (simp [intOf]; try omega)
    · have q0 := hH.out.cell (b := A) (o := 45) (.here _ _) rfl
      have q1 := hH.out.cell (b := A) (o := 46) (.here _ _) rfl
      have q2 := hH.out.cell (b := A) (o := 47) (.here _ _) rfl
      have q3 := hH.out.cell (b := A) (o := 48) (.here _ _) rfl
      have q4 := hH.out.cell (b := A) (o := 49) (.here _ _) rfl
      have q5 := hH.out.cell (b := A) (o := 50) (.here _ _) rfl
      have q6 := hH.out.cell (b := A) (o := 51) (.here _ _) rfl
      have q7 := hH.out.cell (b := A) (o := 52) (.here _ _) rfl
      have q8 := hH.out.cell (b := A) (o := 53) (.here _ _) rfl
      have hlt := blk_lt hH.out.head
      go_wp2_with fail
      have H1 := hH.out.alloc [.int .i64 0, .int .i64 64, .int .i64 1, .int .u64 0, .int .i64 0, .int .u64 0, .int .u64 0, .int .u64 0, .slice none 0 0] 25
      dsimp only [List.toArray] at H1
      clear q0 q1 q2 q3 q4 q5 q6 q7 q8 hlt hH
      generalize wr.alloc (.cells #[.int .i64 0, .int .i64 64, .int .i64 1, .int .u64 0, .int .i64 0, .int .u64 0, .int .u64 0, .int .u64 0, .slice none 0 0] 25) = v1 at *
      generalize wr.heap.size = B at *
      refine (chk_no 5 none 0 0 H1 rfl).mono ?_
      rintro e v2 ⟨rfl, H2⟩
      clear H1
      have hH := Lib.hid H2
      have q0 := H2.cell (b := B) (o := 0) (.here _ _) rfl
      have q1 := H2.cell (b := B) (o := 1) (.here _ _) rfl
      have q2 := H2.cell (b := B) (o := 2) (.here _ _) rfl
      have q3 := H2.cell (b := B) (o := 3) (.here _ _) rfl
      have q4 := H2.cell (b := B) (o := 4) (.here _ _) rfl
      have q5 := H2.cell (b := B) (o := 5) (.here _ _) rfl
      have q6 := H2.cell (b := B) (o := 6) (.here _ _) rfl
      have q7 := H2.cell (b := B) (o := 7) (.here _ _) rfl
      have q8 := H2.cell (b := B) (o := 8) (.here _ _) rfl
      clear H2
      go_wp2_with fail
      refine (text_no 5 none 0 0 hH.out rfl (by decide) (fun V hV => htab.out _ _ _ hV (.there (.there (.there (.there (.there (.here _ _)))))))).mono ?_
      rintro e v3 ⟨rfl, H3⟩
      clear q0 q1 q2 q3 q4 q5 q6 q7 q8 hH
      have hH := Lib.hid H3
      clear H3
      go_wp2_with fail
      go_roundw
      case rel => exact ⟨6, by omega, rfl, rfl, Lib.hid hH.out.tail⟩
      case measure => (simp [intOf]; try omega)
    · have q0 := hH.out.cell (b := A) (o := 54) (.here _ _) rfl
      have q1 := hH.out.cell (b := A) (o := 55) (.here _ _) rfl
      have q2 := hH.out.cell (b := A) (o := 56) (.here _ _) rfl
      have q3 := hH.out.cell (b := A) (o := 57) (.here _ _) rfl
      have q4 := hH.out.cell (b := A) (o := 58) (.here _ _) rfl
      have q5 := hH.out.cell (b := A) (o := 59) (.here _ _) rfl
      have q6 := hH.out.cell (b := A) (o := 60) (.here _ _) rfl
      have q7 := hH.out.cell (b := A) (o := 61) (.here _ _) rfl
      have q8 := hH.out.cell (b := A) (o := 62) (.here _ _) rfl
      have hlt := blk_lt hH.out.head
      go_wp2_with fail
      have H1 := hH.out.alloc [.int .i64 0, .int .i64 1, .int .i64 1, .int .u64 0, .int .i64 (-1), .int .u64 0, .int .u64 0, .int .u64 0, .slice none 0 0] 25
      dsimp only [List.toArray] at H1
      clear q0 q1 q2 q3 q4 q5 q6 q7 q8 hlt hH
      generalize wr.alloc (.cells #[.int .i64 0, .int .i64 1, .int .i64 1, .int .u64 0, .int .i64 (-1), .int .u64 0, .int .u64 0, .int .u64 0, .slice none 0 0] 25) = v1 at *
      generalize wr.heap.size = B at *
      refine (chk_no 6 none 0 0 H1 rfl).mono ?_
      rintro e v2 ⟨rfl, H2⟩
      clear H1
      have hH := Lib.hid H2
      have q0 := H2.cell (b := B) (o := 0) (.here _ _) rfl
      have q1 := H2.cell (b := B) (o := 1) (.here _ _) rfl
      have q2 := H2.cell (b := B) (o := 2) (.here _ _) rfl
      have q3 := H2.cell (b := B) (o := 3) (.here _ _) rfl
      have q4 := H2.cell (b := B) (o := 4) (.here _ _) rfl
      have q5 := H2.cell (b := B) (o := 5) (.here _ _) rfl
      have q6 := H2.cell (b := B) (o := 6) (.here _ _) rfl
      have q7 := H2.cell (b := B) (o := 7) (.here _ _) rfl
      have q8 := H2.cell (b := B) (o := 8) (.here _ _) rfl
      clear H2
      go_wp2_with fail
      refine (text_no 6 none 0 0 hH.out rfl (by decide) (fun V hV => htab.out _ _ _ hV (.there (.there (.there (.there (.there (.here _ _)))))))).mono ?_
      rintro e v3 ⟨rfl, H3⟩
      clear q0 q1 q2 q3 q4 q5 q6 q7 q8 hH
      have hH := Lib.hid H3
      clear H3
      go_wp2_with fail
      go_roundw
      case rel => exact ⟨7, by omega, rfl, rfl, Lib.hid hH.out.tail⟩
      case measure => (simp [intOf]; try omega)
    · have q0 := hH.out.cell (b := A) (o := 63) (.here _ _) rfl
      have q1 := hH.out.cell (b := A) (o := 64) (.here _ _) rfl
      have q2 := hH.out.cell (b := A) (o := 65) (.here _ _) rfl
      have q3 := hH.out.cell (b := A) (o := 66) (.here _ _) rfl
      have q4 := hH.out.cell (b := A) (o := 67) (.here _ _) rfl
      have q5 := hH.out.cell (b := A) (o := 68) (.here _ _) rfl
      have q6 := hH.out.cell (b := A) (o := 69) (.here _ _) rfl
      have q7 := hH.out.cell (b := A) (o := 70) (.here _ _) rfl
      have q8 := hH.out.cell (b := A) (o := 71) (.here _ _) rfl
      have hlt := blk_lt hH.out.head
      go_wp2_with fail
      have H1 := hH.out.alloc [.int .i64 0, .int .i64 1, .int .i64 1, .int .u64 0, .int .i64 0, .int .u64 0, .int .u64 1, .int .u64 0, .slice none 0 0] 25
      dsimp only [List.toArray] at H1
      clear q0 q1 q2 q3 q4 q5 q6 q7 q8 hlt hH
      generalize wr.alloc (.cells #[.int .i64 0, .int .i64 1, .int .i64 1, .int .u64 0, .int .i64 0, .int .u64 0, .int .u64 1, .int .u64 0, .slice none 0 0] 25) = v1 at *
      generalize wr.heap.size = B at *
      refine (chk_no 7 none 0 0 H1 rfl).mono ?_
      rintro e v2 ⟨rfl, H2⟩
      clear H1
      have hH := Lib.hid H2
      have q0 := H2.cell (b := B) (o := 0) (.here _ _) rfl
      have q1 := H2.cell (b := B) (o := 1) (.here _ _) rfl
      have q2 := H2.cell (b := B) (o := 2) (.here _ _) rfl
      have q3 := H2.cell (b := B) (o := 3) (.here _ _) rfl
      have q4 := H2.cell (b := B) (o := 4) (.here _ _) rfl
      have q5 := H2.cell (b := B) (o := 5) (.here _ _) rfl
      have q6 := H2.cell (b := B) (o := 6) (.here _ _) rfl
      have q7 := H2.cell (b := B) (o := 7) (.here _ _) rfl
      have q8 := H2.cell (b := B) (o := 8) (.here _ _) rfl
      clear H2
      go_wp2_with fail
      refine (text_no 7 none 0 0 hH.out rfl (by decide) (fun V hV => htab.out _ _ _ hV (.there (.there (.there (.there (.there (.here _ _)))))))).mono ?_
      rintro e v3 ⟨rfl, H3⟩
      clear q0 q1 q2 q3 q4 q5 q6 q7 q8 hH
      have hH := Lib.hid H3
      clear H3
      go_wp2_with fail
      go_roundw
      case rel => exact ⟨8, by omega, rfl, rfl, Lib.hid hH.out.tail⟩
      case measure => (simp [intOf]; try omega)
    · have q0 := hH.out.cell (b := A) (o := 72) (.here _ _) rfl
      have q1 := hH.out.cell (b := A) (o := 73) (.here _ _) rfl
      have q2 := hH.out.cell (b := A) (o := 74) (.here _ _) rfl
      have q3 := hH.out.cell (b := A) (o := 75) (.here _ _) rfl
      have q4 := hH.out.cell (b := A) (o := 76) (.here _ _) rfl
      have q5 := hH.out.cell (b := A) (o := 77) (.here _ _) rfl
      have q6 := hH.out.cell (b := A) (o := 78) (.here _ _) rfl
      have q7 := hH.out.cell (b := A) (o := 79) (.here _ _) rfl
      have q8 := hH.out.cell (b := A) (o := 80) (.here _ _) rfl
      have hlt := blk_lt hH.out.head
      go_wp2_with fail
      have H1 := hH.out.alloc [.int .i64 0, .int .i64 1, .int .i64 3, .int .u64 0, .int .i64 0, .int .u64 0, .int .u64 0, .int .u64 0, .slice (some ⟨D, 0, none⟩) 1 1] 25
      dsimp only [List.toArray] at H1
      clear q0 q1 q2 q3 q4 q5 q6 q7 q8 hlt hH
      generalize wr.alloc (.cells #[.int .i64 0, .int .i64 1, .int .i64 3, .int .u64 0, .int .i64 0, .int .u64 0, .int .u64 0, .int .u64 0, .slice (some ⟨D, 0, none⟩) 1 1] 25) = v1 at *
      generalize wr.heap.size = B at *
      refine (chk_no 8 (some ⟨D, 0, none⟩) 1 1 H1 rfl).mono ?_
      rintro e v2 ⟨rfl, H2⟩
      clear H1
      have hH := Lib.hid H2
      have q0 := H2.cell (b := B) (o := 0) (.here _ _) rfl
      have q1 := H2.cell (b := B) (o := 1) (.here _ _) rfl
      have q2 := H2.cell (b := B) (o := 2) (.here _ _) rfl
      have q3 := H2.cell (b := B) (o := 3) (.here _ _) rfl
      have q4 := H2.cell (b := B) (o := 4) (.here _ _) rfl
      have q5 := H2.cell (b := B) (o := 5) (.here _ _) rfl
      have q6 := H2.cell (b := B) (o := 6) (.here _ _) rfl
      have q7 := H2.cell (b := B) (o := 7) (.here _ _) rfl
      have q8 := H2.cell (b := B) (o := 8) (.here _ _) rfl
      clear H2
      go_wp2_with fail
      refine (text_no 8 (some ⟨D, 0, none⟩) 1 1 hH.out rfl (by decide) (fun V hV => htab.out _ _ _ hV (.there (.there (.there (.there (.there (.here _ _)))))))).mono ?_
      rintro e v3 ⟨rfl, H3⟩
      clear q0 q1 q2 q3 q4 q5 q6 q7 q8 hH
      have hH := Lib.hid H3
      clear H3
      go_wp2_with fail
      go_roundw
      case rel => exact ⟨9, by omega, rfl, rfl, Lib.hid hH.out.tail⟩
      case measure => (simp [intOf]; try omega)
    · have q0 := hH.out.cell (b := A) (o := 81) (.here _ _) rfl
      have q1 := hH.out.cell (b := A) (o := 82) (.here _ _) rfl
      have q2 := hH.out.cell (b := A) (o := 83) (.here _ _) rfl
      have q3 := hH.out.cell (b := A) (o := 84) (.here _ _) rfl
      have q4 := hH.out.cell (b := A) (o := 85) (.here _ _) rfl
      have q5 := hH.out.cell (b := A) (o := 86) (.here _ _) rfl
      have q6 := hH.out.cell (b := A) (o := 87) (.here _ _) rfl
      have q7 := hH.out.cell (b := A) (o := 88) (.here _ _) rfl
      have q8 := hH.out.cell (b := A) (o := 89) (.here _ _) rfl
      have hlt := blk_lt hH.out.head
      go_wp2_with fail
      have H1 := hH.out.alloc [.int .i64 0, .int .i64 1, .int .i64 2, .int .u64 0, .int .i64 0, .int .u64 4611686018427387904, .int .u64 0, .int .u64 0, .slice none 0 0] 25
      dsimp only [List.toArray] at H1
      clear q0 q1 q2 q3 q4 q5 q6 q7 q8 hlt hH
      generalize wr.alloc (.cells #[.int .i64 0, .int .i64 1, .int .i64 2, .int .u64 0, .int .i64 0, .int .u64 4611686018427387904, .int .u64 0, .int .u64 0, .slice none 0 0] 25) = v1 at *
      generalize wr.heap.size = B at *
      refine (chk_no 9 none 0 0 H1 rfl).mono ?_
      rintro e v2 ⟨rfl, H2⟩
      clear H1
      have hH := Lib.hid H2
      have q0 := H2.cell (b := B) (o := 0) (.here _ _) rfl
      have q1 := H2.cell (b := B) (o := 1) (.here _ _) rfl
      have q2 := H2.cell (b := B) (o := 2) (.here _ _) rfl
      have q3 := H2.cell (b := B) (o := 3) (.here _ _) rfl
      have q4 := H2.cell (b := B) (o := 4) (.here _ _) rfl
      have q5 := H2.cell (b := B) (o := 5) (.here _ _) rfl
      have q6 := H2.cell (b := B) (o := 6) (.here _ _) rfl
      have q7 := H2.cell (b := B) (o := 7) (.here _ _) rfl
      have q8 := H2.cell (b := B) (o := 8) (.here _ _) rfl
      clear H2
      go_wp2_with fail
      refine (text_no 9 none 0 0 hH.out rfl (by decide) (fun V hV => htab.out _ _ _ hV (.there (.there (.there (.there (.there (.here _ _)))))))).mono ?_
      rintro e v3 ⟨rfl, H3⟩
      clear q0 q1 q2 q3 q4 q5 q6 q7 q8 hH
      have hH := Lib.hid H3
      clear H3
      go_wp2_with fail
      go_roundw
      case rel => exact ⟨10, by omega, rfl, rfl, Lib.hid hH.out.tail⟩
      case measure => (simp [intOf]; try omega)
    · have q0 := hH.out.cell (b := A) (o := 90) (.here _ _) rfl
      have q1 := hH.out.cell (b := A) (o := 91) (.here _ _) rfl
      have q2 := hH.out.cell (b := A) (o := 92) (.here _ _) rfl
      have q3 := hH.out.cell (b := A) (o := 93) (.here _ _) rfl
      have q4 := hH.out.cell (b := A) (o := 94) (.here _ _) rfl
      have q5 := hH.out.cell (b := A) (o := 95) (.here _ _) rfl
      have q6 := hH.out.cell (b := A) (o := 96) (.here _ _) rfl
      have q7 := hH.out.cell (b := A) (o := 97) (.here _ _) rfl
      have q8 := hH.out.cell (b := A) (o := 98) (.here _ _) rfl
      have hlt := blk_lt hH.out.head
      go_wp2_with fail
      have H1 := hH.out.alloc [.int .i64 0, .int .i64 1, .int .i64 2, .int .u64 0, .int .i64 0, .int .u64 0, .int .u64 4611686018427387905, .int .u64 0, .slice none 0 0] 25
      dsimp only [List.toArray] at H1
      clear q0 q1 q2 q3 q4 q5 q6 q7 q8 hlt hH
      generalize wr.alloc (.cells #[.int .i64 0, .int .i64 1, .int .i64 2, .int .u64 0, .int .i64 0, .int .u64 0, .int .u64 4611686018427387905, .int .u64 0, .slice none 0 0] 25) = v1 at *
      generalize wr.heap.size = B at *
      refine (chk_no 10 none 0 0 H1 rfl).mono ?_
      rintro e v2 ⟨rfl, H2⟩
      clear H1
      have hH := Lib.hid H2
      have q0 := H2.cell (b := B) (o := 0) (.here _ _) rfl
      have q1 := H2.cell (b := B) (o := 1) (.here _ _) rfl
      have q2 := H2.cell (b := B) (o := 2) (.here _ _) rfl
      have q3 := H2.cell (b := B) (o := 3) (.here _ _) rfl
      have q4 := H2.cell (b := B) (o := 4) (.here _ _) rfl
      have q5 := H2.cell (b := B) (o := 5) (.here _ _) rfl
      have q6 := H2.cell (b := B) (o := 6) (.here _ _) rfl
      have q7 := H2.cell (b := B) (o := 7) (.here _ _) rfl
      have q8 := H2.cell (b := B) (o := 8) (.here _ _) rfl
      clear H2
      go_wp2_with fail
      refine (text_no 10 none 0 0 hH.out rfl (by decide) (fun V hV => htab.out _ _ _ hV (.there (.there (.there (.there (.there (.here _ _)))))))).mono ?_
      rintro e v3 ⟨rfl, H3⟩
      clear q0 q1 q2 q3 q4 q5 q6 q7 q8 hH
      have hH := Lib.hid H3
      clear H3
      go_wp2_with fail
      go_roundw
      case rel => exact ⟨11, by omega, rfl, rfl, Lib.hid hH.out.tail⟩
      case measure => (simp [intOf]; try omega)
    · have q0 := hH.out.cell (b := A) (o := 99) (.here _ _) rfl
      have q1 := hH.out.cell (b := A) (o := 100) (.here _ _) rfl
      have q2 := hH.out.cell (b := A) (o := 101) (.here _ _) rfl
      have q3 := hH.out.cell (b := A) (o := 102) (.here _ _) rfl
      have q4 := hH.out.cell (b := A) (o := 103) (.here _ _) rfl
      have q5 := hH.out.cell (b := A) (o := 104) (.here _ _) rfl
      have q6 := hH.out.cell (b := A) (o := 105) (.here _ _) rfl
      have q7 := hH.out.cell (b := A) (o := 106) (.here _ _) rfl
      have q8 := hH.out.cell (b := A) (o := 107) (.here _ _) rfl
      have hlt := blk_lt hH.out.head
      go_wp2_with fail
      have H1 := hH.out.alloc [.int .i64 0, .int .i64 1, .int .i64 3, .int .u64 0, .int .i64 0, .int .u64 0, .int .u64 0, .int .u64 9223372036854775808, .slice none 0 0] 25
      dsimp only [List.toArray] at H1
      clear q0 q1 q2 q3 q4 q5 q6 q7 q8 hlt hH
      generalize wr.alloc (.cells #[.int .i64 0, .int .i64 1, .int .i64 3, .int .u64 0, .int .i64 0, .int .u64 0, .int .u64 0, .int .u64 9223372036854775808, .slice none 0 0] 25) = v1 at *
      generalize wr.heap.size = B at *
      refine (chk_no 11 none 0 0 H1 rfl).mono ?_
      rintro e v2 ⟨rfl, H2⟩
      clear H1
      have hH := Lib.hid H2
      have q0 := H2.cell (b := B) (o := 0) (.here _ _) rfl
      have q1 := H2.cell (b := B) (o := 1) (.here _ _) rfl
      have q2 := H2.cell (b := B) (o := 2) (.here _ _) rfl
      have q3 := H2.cell (b := B) (o := 3) (.here _ _) rfl
      have q4 := H2.cell (b := B) (o := 4) (.here _ _) rfl
      have q5 := H2.cell (b := B) (o := 5) (.here _ _) rfl
      have q6 := H2.cell (b := B) (o := 6) (.here _ _) rfl
      have q7 := H2.cell (b := B) (o := 7) (.here _ _) rfl
      have q8 := H2.cell (b := B) (o := 8) (.here _ _) rfl
      clear H2
      go_wp2_with fail
      refine (text_no 11 none 0 0 hH.out rfl (by decide) (fun V hV => htab.out _ _ _ hV (.there (.there (.there (.there (.there (.here _ _)))))))).mono ?_
      rintro e v3 ⟨rfl, H3⟩
      clear q0 q1 q2 q3 q4 q5 q6 q7 q8 hH
      have hH := Lib.hid H3
      clear H3
      go_wp2_with fail
      go_roundw
      case rel => exact ⟨12, by omega, rfl, rfl, Lib.hid hH.out.tail⟩
      case measure => (simp [intOf]; try omega)
    · have q0 := hH.out.cell (b := A) (o := 108) (.here _ _) rfl
      have q1 := hH.out.cell (b := A) (o := 109) (.here _ _) rfl
      have q2 := hH.out.cell (b := A) (o := 110) (.here _ _) rfl
      have q3 := hH.out.cell (b := A) (o := 111) (.here _ _) rfl
      have q4 := hH.out.cell (b := A) (o := 112) (.here _ _) rfl
      have q5 := hH.out.cell (b := A) (o := 113) (.here _ _) rfl
      have q6 := hH.out.cell (b := A) (o := 114) (.here _ _) rfl
      have q7 := hH.out.cell (b := A) (o := 115) (.here _ _) rfl
      have q8 := hH.out.cell (b := A) (o := 116) (.here _ _) rfl
      have hlt := blk_lt hH.out.head
      go_wp2_with fail
      have H1 := hH.out.alloc [.int .i64 0, .int .i64 1, .int .i64 2, .int .u64 0, .int .i64 0, .int .u64 0, .int .u64 0, .int .u64 0, .slice (some ⟨M, 0, none⟩) 901 901] 25
      dsimp only [List.toArray] at H1
      clear q0 q1 q2 q3 q4 q5 q6 q7 q8 hlt hH
      generalize wr.alloc (.cells #[.int .i64 0, .int .i64 1, .int .i64 2, .int .u64 0, .int .i64 0, .int .u64 0, .int .u64 0, .int .u64 0, .slice (some ⟨M, 0, none⟩) 901 901] 25) = v1 at *
      generalize wr.heap.size = B at *
      refine (chk_no 12 (some ⟨M, 0, none⟩) 901 901 H1 (zs_len 901)).mono ?_
      rintro e v2 ⟨rfl, H2⟩
      clear H1
      have hH := Lib.hid H2
      have q0 := H2.cell (b := B) (o := 0) (.here _ _) rfl
      have q1 := H2.cell (b := B) (o := 1) (.here _ _) rfl
      have q2 := H2.cell (b := B) (o := 2) (.here _ _) rfl
      have q3 := H2.cell (b := B) (o := 3) (.here _ _) rfl
      have q4 := H2.cell (b := B) (o := 4) (.here _ _) rfl
      have q5 := H2.cell (b := B) (o := 5) (.here _ _) rfl
      have q6 := H2.cell (b := B) (o := 6) (.here _ _) rfl
      have q7 := H2.cell (b := B) (o := 7) (.here _ _) rfl
      have q8 := H2.cell (b := B) (o := 8) (.here _ _) rfl
      clear H2
      go_wp2_with fail
      refine (text_no 12 (some ⟨M, 0, none⟩) 901 901 hH.out (zs_len 901) (by decide) (fun V hV => htab.out _ _ _ hV (.there (.there (.there (.there (.there (.here _ _)))))))).mono ?_
      rintro e v3 ⟨rfl, H3⟩
      clear q0 q1 q2 q3 q4 q5 q6 q7 q8 hH
      have hH := Lib.hid H3
      clear H3
      go_wp2_with fail
      go_roundw
      case rel => exact ⟨13, by omega, rfl, rfl, Lib.hid hH.out.tail⟩
      case measure => (simp [intOf]; try omega)
    · rw [show ((13 : Nat) : Int) = 13 from rfl]
      have hH2 := Lib.hid (hH.out.re (.drop (.drop (.drop (.same _)))))
      clear hH
      obtain ⟨w11, hr0, H12⟩ := hH2.out.made elemB .i64 .i64 900 (by omega) (by simp only [maxLen]; omega)
      have hr : (Instr.makeSlice 23 (.int .i64 900) (.int .i64 900)).run Tryd.prog wr = .ok (.slice (some ⟨wr.heap.size, 0, none⟩) 900 900) w11 := hr0
      have H13 := H12.alloc [] 5
      have H14 := H13.alloc [.int .i64 0, .int .i64 1, .int .i64 2, .int .u64 0, .int .i64 0, .int .u64 4611686018427387903, .int .u64 4611686018427387904, .int .u64 9223372036854775807, .slice (some ⟨wr.heap.size, 0, none⟩) 900 900, .int .i64 63, .int .i64 0, .int .i64 3, .int .u64 18446744073709551615, .int .i64 63, .int .u64 0, .int .u64 0, .int .u64 0, .slice none 0 0, .int .i64 0, .int .i64 1, .int .i64 1, .int .u64 0, .int .i64 0, .int .u64 0, .int .u64 0, .int .u64 0, .slice (some ⟨w11.heap.size, 0, none⟩) 0 0] 25
      rw [World.size_alloc] at H14
      have hH := Lib.hid H14
      dsimp only [List.toArray] at hH
      clear H12 H13 H14 hr0 hH2
      go_wp2_with fail
      generalize (w11.alloc (.cells #[] 5)).alloc (.cells #[.int .i64 0, .int .i64 1, .int .i64 2, .int .u64 0, .int .i64 0, .int .u64 4611686018427387903, .int .u64 4611686018427387904, .int .u64 9223372036854775807, .slice (some ⟨wr.heap.size, 0, none⟩) 900 900, .int .i64 63, .int .i64 0, .int .i64 3, .int .u64 18446744073709551615, .int .i64 63, .int .u64 0, .int .u64 0, .int .u64 0, .slice none 0 0, .int .i64 0, .int .i64 1, .int .i64 1, .int .u64 0, .int .i64 0, .int .u64 0, .int .u64 0, .int .u64 0, .slice (some ⟨w11.heap.size, 0, none⟩) 0 0] 25) = w12 at *
      generalize w11.heap.size + 1 = A2 at *
      generalize w11.heap.size = D2 at *
      generalize wr.heap.size = M2 at *
      clear hr
      generalize hR : madeCells _ _ = R2 at *
      clear hR
      go_loopw [76, 12] (fun i b wr => ∃ k : Nat, k ≤ 3 ∧ i = .int .i64 k ∧ b = .bool true ∧ Hid (SL wr (.blk A2 (fineC D2 M2) 25 :: .blk D2 [] 5 :: .own 5 1 (.slice (some ⟨M2, 0, none⟩) 900 900) 900 R2.toList :: [.blk Y5 [.int .i64 1, .int .i64 2, .int .i64 1, .int .u64 300, .int .i64 1, .int .u64 0, .int .u64 0, .int .u64 0, .slice ka 0 kc] 25, .old w no]))) (fun i _ _ => 3 - (intOf i).toNat)
      case atStart => exact ⟨0, by omega, rfl, rfl, hH⟩
      case round =>
        clear hH
        obtain ⟨k, hk, rfl, rfl, hH⟩ := hrel
        obtain rfl | rfl | rfl | rfl : k = 0 ∨ k = 1 ∨ k = 2 ∨ k = 3 := by omega
        · have q0 := hH.out.cell (b := A2) (o := 0) (.here _ _) rfl
          have q1 := hH.out.cell (b := A2) (o := 1) (.here _ _) rfl
          have q2 := hH.out.cell (b := A2) (o := 2) (.here _ _) rfl
          have q3 := hH.out.cell (b := A2) (o := 3) (.here _ _) rfl
          have q4 := hH.out.cell (b := A2) (o := 4) (.here _ _) rfl
          have q5 := hH.out.cell (b := A2) (o := 5) (.here _ _) rfl
          have q6 := hH.out.cell (b := A2) (o := 6) (.here _ _) rfl
          have q7 := hH.out.cell (b := A2) (o := 7) (.here _ _) rfl
          have q8 := hH.out.cell (b := A2) (o := 8) (.here _ _) rfl
          have hlt := blk_lt hH.out.head
          go_wp2_with fail
          have H1 := hH.out.alloc [.int .i64 0, .int .i64 1, .int .i64 2, .int .u64 0, .int .i64 0, .int .u64 4611686018427387903, .int .u64 4611686018427387904, .int .u64 9223372036854775807, .slice (some ⟨M2, 0, none⟩) 900 900] 25
          dsimp only [List.toArray] at H1
          clear q0 q1 q2 q3 q4 q5 q6 q7 q8 hlt hH
          generalize wr.alloc (.cells #[.int .i64 0, .int .i64 1, .int .i64 2, .int .u64 0, .int .i64 0, .int .u64 4611686018427387903, .int .u64 4611686018427387904, .int .u64 9223372036854775807, .slice (some ⟨M2, 0, none⟩) 900 900] 25) = v1 at *
          generalize wr.heap.size = B at *
          refine (chk_yes 0 (some ⟨M2, 0, none⟩) 900 900 H1 (zs_len 900)).mono ?_
          rintro e v2 ⟨rfl, H2⟩
          clear H1
          have hH := Lib.hid H2
          clear H2
          go_wp2_with fail
          go_roundw
          case rel => exact ⟨1, by omega, rfl, rfl, Lib.hid hH.out.tail⟩
          case measure => (simp [intOf]; try omega)
        · have q0 := hH.out.cell (b := A2) (o := 9) (.here _ _) rfl
          have q1 := hH.out.cell (b := A2) (o := 10) (.here _ _) rfl
          have q2 := hH.out.cell (b := A2) (o := 11) (.here _ _) rfl
          have q3 := hH.out.cell (b := A2) (o := 12) (.here _ _) rfl
          have q4 := hH.out.cell (b := A2) (o := 13) (.here _ _) rfl
          have q5 := hH.out.cell (b := A2) (o := 14) (.here _ _) rfl
          have q6 := hH.out.cell (b := A2) (o := 15) (.here _ _) rfl
          have q7 := hH.out.cell (b := A2) (o := 16) (.here _ _) rfl
          have q8 := hH.out.cell (b := A2) (o := 17) (.here _ _) rfl
          have hlt := blk_lt hH.out.head
          go_wp2_with fail
          have H1 := hH.out.alloc [.int .i64 63, .int .i64 0, .int .i64 3, .int .u64 18446744073709551615, .int .i64 63, .int .u64 0, .int .u64 0, .int .u64 0, .slice none 0 0] 25
          dsimp only [List.toArray] at H1
          clear q0 q1 q2 q3 q4 q5 q6 q7 q8 hlt hH
          generalize wr.alloc (.cells #[.int .i64 63, .int .i64 0, .int .i64 3, .int .u64 18446744073709551615, .int .i64 63, .int .u64 0, .int .u64 0, .int .u64 0, .slice none 0 0] 25) = v1 at *
          generalize wr.heap.size = B at *
          refine (chk_yes 1 none 0 0 H1 rfl).mono ?_
          rintro e v2 ⟨rfl, H2⟩
          clear H1
          have hH := Lib.hid H2
          clear H2
          go_wp2_with fail
          go_roundw
          case rel => exact ⟨2, by omega, rfl, rfl, Lib.hid hH.out.tail⟩
          case measure => (simp [intOf]; try omega)
        · have q0 := hH.out.cell (b := A2) (o := 18) (.here _ _) rfl
          have q1 := hH.out.cell (b := A2) (o := 19) (.here _ _) rfl
          have q2 := hH.out.cell (b := A2) (o := 20) (.here _ _) rfl
          have q3 := hH.out.cell (b := A2) (o := 21) (.here _ _) rfl
          have q4 := hH.out.cell (b := A2) (o := 22) (.here _ _) rfl
          have q5 := hH.out.cell (b := A2) (o := 23) (.here _ _) rfl
          have q6 := hH.out.cell (b := A2) (o := 24) (.here _ _) rfl
          have q7 := hH.out.cell (b := A2) (o := 25) (.here _ _) rfl
          have q8 := hH.out.cell (b := A2) (o := 26) (.here _ _) rfl
          have hlt := blk_lt hH.out.head
          go_wp2_with fail
          have H1 := hH.out.alloc [.int .i64 0, .int .i64 1, .int .i64 1, .int .u64 0, .int .i64 0, .int .u64 0, .int .u64 0, .int .u64 0, .slice (some ⟨D2, 0, none⟩) 0 0] 25
          dsimp only [List.toArray] at H1
          clear q0 q1 q2 q3 q4 q5 q6 q7 q8 hlt hH
          generalize wr.alloc (.cells #[.int .i64 0, .int .i64 1, .int .i64 1, .int .u64 0, .int .i64 0, .int .u64 0, .int .u64 0, .int .u64 0, .slice (some ⟨D2, 0, none⟩) 0 0] 25) = v1 at *
          generalize wr.heap.size = B at *
          refine (chk_yes 2 (some ⟨D2, 0, none⟩) 0 0 H1 rfl).mono ?_
          rintro e v2 ⟨rfl, H2⟩
          clear H1
          have hH := Lib.hid H2
          clear H2
          go_wp2_with fail
          go_roundw
          case rel => exact ⟨3, by omega, rfl, rfl, Lib.hid hH.out.tail⟩
          case measure => (simp [intOf]; try omega)
        · rw [show ((3 : Nat) : Int) = 3 from rfl]
          have hH2 := Lib.hid hH.out
          clear hH
          have hH := Lib.hid (hH2.out.re (.drop (.drop (.drop (.same _)))))
          clear hH2
          go_wp2_with fail
          refine (wrong_c hH.out ⟨#[1, 1, 2, 172, 2]⟩ [1, 1, 2, 172, 2] (by decide +kernel) (by intro x hx; simp at hx; unfold byteK; omega) (by decide) wr1).mono ?_
          rintro e v0 ⟨rfl, H⟩
          clear hH
          have hH := Lib.hid H
          clear H
          go_wp2_with fail
          refine (wrong_c hH.out ⟨#[1, 1, 2, 172, 2, 1, 0]⟩ [1, 1, 2, 172, 2, 1, 0] (by decide +kernel) (by intro x hx; simp at hx; unfold byteK; omega) (by decide) wr2).mono ?_
          rintro e v1 ⟨rfl, H⟩
          clear hH
          have hH := Lib.hid H
          clear H
          go_wp2_with fail
          refine (wrong_c hH.out ⟨#[0, 1, 2, 0, 0]⟩ [0, 1, 2, 0, 0] (by decide +kernel) (by intro x hx; simp at hx; unfold byteK; omega) (by decide) wr3).mono ?_
          rintro e v2 ⟨rfl, H⟩
          clear hH
          have hH := Lib.hid H
          clear H
          go_wp2_with fail
          refine (wrong_c hH.out ⟨#[1, 1, 1, 0, 0]⟩ [1, 1, 1, 0, 0] (by decide +kernel) (by intro x hx; simp at hx; unfold byteK; omega) (by decide) wr4).mono ?_
          rintro e v3 ⟨rfl, H⟩
          clear hH
          have hH := Lib.hid H
          clear H
          go_wp2_with fail
          refine (wrong_c hH.out ⟨#[3, 1, 2, 0, 0, 0]⟩ [3, 1, 2, 0, 0, 0] (by decide +kernel) (by intro x hx; simp at hx; unfold byteK; omega) (by decide) wr5).mono ?_
          rintro e v4 ⟨rfl, H⟩
          clear hH
          have hH := Lib.hid H
          clear H
          go_wp2_with fail
          refine (wrong_c hH.out ⟨#[1, 64, 2, 0, 0]⟩ [1, 64, 2, 0, 0] (by decide +kernel) (by intro x hx; simp at hx; unfold byteK; omega) (by decide) wr6).mono ?_
          rintro e v5 ⟨rfl, H⟩
          clear hH
          have hH := Lib.hid H
          clear H
          go_wp2_with fail
          refine (wrong_c hH.out ⟨#[]⟩ [] rfl (by intro x hx; cases hx) (by decide) wr7).mono ?_
          rintro e v6 ⟨rfl, H⟩
          clear hH
          have hH := Lib.hid H
          clear H
          go_wp2_with fail
          have hn2 : Hid (∀ w, Calls Tryd.prog 15 #[.int .i64 2] w fun e w' => e = .returned (.string ⟨#[100, 97, 116, 97]⟩) ∧ w = w') := Lib.hid fun w => name_c 2 w
          have hn0 : Hid (∀ w, Calls Tryd.prog 15 #[.int .i64 0] w fun e w' => e = .returned (.string ⟨#[]⟩) ∧ w = w') := Lib.hid fun w => name_c 0 w
          have hn4 : Hid (∀ w, Calls Tryd.prog 15 #[.int .i64 4] w fun e w' => e = .returned (.string ⟨#[]⟩) ∧ w = w') := Lib.hid fun w => name_c 4 w
          have hbt : Hid (∀ V M, SL V M → Calls Tryd.prog 21 #[] V fun e w' => e = .returned (.agg #[.int .i64 1, .int .i64 2, .int .i64 1, .int .u64 300, .int .i64 1, .int .u64 0, .int .u64 0, .int .u64 0, .slice none 0 0]) ∧ SL w' M) := Lib.hid fun V M h => beat_c h
          have htb : Hid (∀ V M, SL V M → (∀ V, SL V M → TabU V) → Calls Tryd.prog 13 #[.agg #[.int .i64 1, .int .i64 2, .int .i64 1, .int .u64 300, .int .i64 1, .int .u64 0, .int .u64 0, .int .u64 0, .slice none 0 0]] V fun e w' => e = .returned (.string ⟨#[98, 101, 97, 116, 32, 49, 32, 50, 32, 51, 48, 48, 32, 49]⟩) ∧ SL w' M) := Lib.hid fun V M h ht => by
            have x := txt_c gBeat gBeat_ok none 0 h (by decide) ht
            rw [show lineS gBeat = ⟨#[98, 101, 97, 116, 32, 49, 32, 50, 32, 51, 48, 48, 32, 49]⟩ by decide +kernel] at x
            exact x
          refine wp_region_held_drew (S := (fun W => W.cell? ⟨Y5, 0, none⟩ = some (Value.int .i64 1) ∧ W.cell? ⟨Y5, 1, none⟩ = some (.int .i64 2) ∧ W.cell? ⟨Y5, 2, none⟩ = some (.int .i64 1) ∧ W.cell? ⟨Y5, 3, none⟩ = some (.int .u64 300) ∧ W.cell? ⟨Y5, 4, none⟩ = some (.int .i64 1) ∧ W.cell? ⟨Y5, 5, none⟩ = some (.int .u64 0) ∧ W.cell? ⟨Y5, 6, none⟩ = some (.int .u64 0) ∧ W.cell? ⟨Y5, 7, none⟩ = some (.int .u64 0) ∧ W.cell? ⟨Y5, 8, none⟩ = some (.slice ka 0 kc))) (by kernel_rfl) ?_ (fun hHeld => ?_)
          · have H := hH.out.drew
            exact gm_cells (g := gBeat) (d := .slice ka 0 kc) H (.here _ _)
          have H := hH.out.drew
          generalize World.drew v6 = v7 at *
          clear hH
          refine takeL (i := 0) rfl (by kernel_rfl) (by kernel_rfl) (by kernel_rfl) (fun _ _ _ _ h => h) hHeld ?_ (Or.inl ⟨by rfl, ?_⟩) ?_
          rotate_left
          · intro W hW
            (try dsimp only at hW)
            first | (go_simp; done) | (go_simp; with_reducible rfl)
          ((try simp only [Act.put]); (try simp only [List.setIfInBounds_toArray]); (try simp only [List.set_cons_succ]); (try simp only [List.set_cons_zero]))
          refine takeL (i := 1) rfl (by kernel_rfl) (by kernel_rfl) (by kernel_rfl) (fun _ _ _ _ h => h) hHeld ?_ (Or.inl ⟨by rfl, ?_⟩) ?_
          rotate_left
          · intro W hW
            (try dsimp only at hW)
            first | (go_simp; done) | (go_simp; with_reducible rfl)
          ((try simp only [Act.put]); (try simp only [List.setIfInBounds_toArray]); (try simp only [List.set_cons_succ]); (try simp only [List.set_cons_zero]))
          refine takeL (i := 2) rfl (by kernel_rfl) (by kernel_rfl) (by kernel_rfl) (fun _ _ _ _ h => h) hHeld ?_ (Or.inl ⟨by rfl, ?_⟩) ?_
          rotate_left
          · intro W hW
            (try dsimp only at hW)
            first | (go_simp; done) | (go_simp; with_reducible rfl)
          ((try simp only [Act.put]); (try simp only [List.setIfInBounds_toArray]); (try simp only [List.set_cons_succ]); (try simp only [List.set_cons_zero]))
          refine takeL (i := 3) rfl (by kernel_rfl) (by kernel_rfl) (by kernel_rfl) (fun _ _ _ _ h => h) hHeld ?_ (Or.inl ⟨by rfl, ?_⟩) ?_
          rotate_left
          · intro W hW
            (try dsimp only at hW)
            first | (go_simp; done) | (go_simp; with_reducible rfl)
          ((try simp only [Act.put]); (try simp only [List.setIfInBounds_toArray]); (try simp only [List.set_cons_succ]); (try simp only [List.set_cons_zero]))
          refine takeL (i := 4) rfl (by kernel_rfl) (by kernel_rfl) (by kernel_rfl) (fun _ _ _ _ h => h) hHeld ?_ (Or.inl ⟨by rfl, ?_⟩) ?_
          rotate_left
          · intro W hW
            (try dsimp only at hW)
            first | (go_simp; done) | (go_simp; with_reducible rfl)
          ((try simp only [Act.put]); (try simp only [List.setIfInBounds_toArray]); (try simp only [List.set_cons_succ]); (try simp only [List.set_cons_zero]))
          refine takeL (i := 5) rfl (by kernel_rfl) (by kernel_rfl) (by kernel_rfl) (fun _ _ _ _ h => h) hHeld ?_ (Or.inl ⟨by rfl, ?_⟩) ?_
          rotate_left
          · intro W hW
            (try dsimp only at hW)
            first | (go_simp; done) | (go_simp; with_reducible rfl)
          ((try simp only [Act.put]); (try simp only [List.setIfInBounds_toArray]); (try simp only [List.set_cons_succ]); (try simp only [List.set_cons_zero]))
          refine takeL (i := 6) rfl (by kernel_rfl) (by kernel_rfl) (by kernel_rfl) (fun _ _ _ _ h => h) hHeld ?_ (Or.inl ⟨by rfl, ?_⟩) ?_
          rotate_left
          · intro W hW
            (try dsimp only at hW)
            first | (go_simp; done) | (go_simp; with_reducible rfl)
          ((try simp only [Act.put]); (try simp only [List.setIfInBounds_toArray]); (try simp only [List.set_cons_succ]); (try simp only [List.set_cons_zero]))
          refine takeL (i := 7) rfl (by kernel_rfl) (by kernel_rfl) (by kernel_rfl) (fun _ _ _ _ h => h) hHeld ?_ (Or.inl ⟨by rfl, ?_⟩) ?_
          rotate_left
          · intro W hW
            (try dsimp only at hW)
            first | (go_simp; done) | (go_simp; with_reducible rfl)
          ((try simp only [Act.put]); (try simp only [List.setIfInBounds_toArray]); (try simp only [List.set_cons_succ]); (try simp only [List.set_cons_zero]))
          refine callL (i := 8) rfl (by kernel_rfl) (fun K hK => ?_)
          rw [if_pos (by rfl)]
          go_simp
          refine (hbt.out _ _ H).mono ?_
          rintro e v8 ⟨rfl, H8⟩
          have H' := H8
          clear H hHeld
          clear H8
          have H := H'
          clear H'
          refine hK.out _ _ ?_ (fun hHeld => ?_)
          · exact gm_cells (g := gBeat) (d := .slice ka 0 kc) H (.here _ _)
          clear hK K
          ((try simp only [Act.put]); (try simp only [List.setIfInBounds_toArray]); (try simp only [List.set_cons_succ]); (try simp only [List.set_cons_zero]))
          refine callL (i := 9) rfl (by kernel_rfl) (fun K hK => ?_)
          rw [if_pos (by rfl)]
          go_simp
          refine (same_s gBeat gBeat ka none 0 kc 0 0 H rfl rfl (by decide) gBeat_ok.data gBeat_ok.data (fun V hV i hi => (by cases hi)) (fun V hV i hi => (by cases hi)) true (by simp)).mono ?_
          rintro e v9 ⟨rfl, H9⟩
          have H' := H9
          clear H hHeld
          clear H9
          have H := H'
          clear H'
          refine hK.out _ _ ?_ (fun hHeld => ?_)
          · exact gm_cells (g := gBeat) (d := .slice ka 0 kc) H (.here _ _)
          clear hK K
          ((try simp only [Act.put]); (try simp only [List.setIfInBounds_toArray]); (try simp only [List.set_cons_succ]); (try simp only [List.set_cons_zero]))
          refine takeL (i := 10) rfl (by kernel_rfl) (by kernel_rfl) (by kernel_rfl) (fun _ _ _ _ h => h) hHeld ?_ (Or.inl ⟨by rfl, ?_⟩) ?_
          rotate_left
          · intro W hW
            (try dsimp only at hW)
            first | (go_simp; done) | (go_simp; with_reducible rfl)
          ((try simp only [Act.put]); (try simp only [List.setIfInBounds_toArray]); (try simp only [List.set_cons_succ]); (try simp only [List.set_cons_zero]))
          refine takeL (i := 11) rfl (by kernel_rfl) (by kernel_rfl) (by kernel_rfl) (fun _ _ _ _ h => h) hHeld ?_ (Or.inl ⟨by rfl, ?_⟩) ?_
          rotate_left
          · intro W hW
            (try dsimp only at hW)
            first | (go_simp; done) | (go_simp; with_reducible rfl)
          ((try simp only [Act.put]); (try simp only [List.setIfInBounds_toArray]); (try simp only [List.set_cons_succ]); (try simp only [List.set_cons_zero]))
          refine takeL (i := 12) rfl (by kernel_rfl) (by kernel_rfl) (by kernel_rfl) (fun _ _ _ _ h => h) hHeld ?_ (Or.inl ⟨by rfl, ?_⟩) ?_
          rotate_left
          · intro W hW
            (try dsimp only at hW)
            first | (go_simp; done) | (go_simp; with_reducible rfl)
          ((try simp only [Act.put]); (try simp only [List.setIfInBounds_toArray]); (try simp only [List.set_cons_succ]); (try simp only [List.set_cons_zero]))
          refine takeL (i := 13) rfl (by kernel_rfl) (by kernel_rfl) (by kernel_rfl) (fun _ _ _ _ h => h) hHeld ?_ (Or.inl ⟨by rfl, ?_⟩) ?_
          rotate_left
          · intro W hW
            (try dsimp only at hW)
            first | (go_simp; done) | (go_simp; with_reducible rfl)
          ((try simp only [Act.put]); (try simp only [List.setIfInBounds_toArray]); (try simp only [List.set_cons_succ]); (try simp only [List.set_cons_zero]))
          refine takeL (i := 14) rfl (by kernel_rfl) (by kernel_rfl) (by kernel_rfl) (fun _ _ _ _ h => h) hHeld ?_ (Or.inl ⟨by rfl, ?_⟩) ?_
          rotate_left
          · intro W hW
            (try dsimp only at hW)
            first | (go_simp; done) | (go_simp; with_reducible rfl)
          ((try simp only [Act.put]); (try simp only [List.setIfInBounds_toArray]); (try simp only [List.set_cons_succ]); (try simp only [List.set_cons_zero]))
          refine takeL (i := 15) rfl (by kernel_rfl) (by kernel_rfl) (by kernel_rfl) (fun _ _ _ _ h => h) hHeld ?_ (Or.inl ⟨by rfl, ?_⟩) ?_
          rotate_left
          · intro W hW
            (try dsimp only at hW)
            first | (go_simp; done) | (go_simp; with_reducible rfl)
          ((try simp only [Act.put]); (try simp only [List.setIfInBounds_toArray]); (try simp only [List.set_cons_succ]); (try simp only [List.set_cons_zero]))
          refine callL (i := 16) rfl (by kernel_rfl) (fun K hK => ?_)
          rw [if_pos (by rfl)]
          go_simp
          refine (hbt.out _ _ H).mono ?_
          rintro e v10 ⟨rfl, H10⟩
          have H' := H10
          clear H hHeld
          clear H10
          have H := H'
          clear H'
          refine hK.out _ _ ?_ (fun hHeld => ?_)
          · exact gm_cells (g := gBeat) (d := .slice ka 0 kc) H (.here _ _)
          clear hK K
          ((try simp only [Act.put]); (try simp only [List.setIfInBounds_toArray]); (try simp only [List.set_cons_succ]); (try simp only [List.set_cons_zero]))
          refine callL (i := 17) rfl (by kernel_rfl) (fun K hK => ?_)
          rw [if_pos (by rfl)]
          go_simp
          refine (htb.out _ _ H (fun V hV => htab.out _ _ _ hV (.there (.here _ _)))).mono ?_
          rintro e v11 ⟨rfl, H11⟩
          have H' := H11
          clear H hHeld
          clear H11
          have H := H'
          clear H'
          refine hK.out _ _ ?_ (fun hHeld => ?_)
          · exact gm_cells (g := gBeat) (d := .slice ka 0 kc) H (.here _ _)
          clear hK K
          ((try simp only [Act.put]); (try simp only [List.setIfInBounds_toArray]); (try simp only [List.set_cons_succ]); (try simp only [List.set_cons_zero]))
          refine takeL (i := 18) rfl (by kernel_rfl) (by kernel_rfl) (by kernel_rfl) (fun _ _ _ _ h => h) hHeld ?_ (Or.inl ⟨by rfl, ?_⟩) ?_
          rotate_left
          · intro W hW
            (try dsimp only at hW)
            first | (go_simp; done) | (go_simp; with_reducible rfl)
          ((try simp only [Act.put]); (try simp only [List.setIfInBounds_toArray]); (try simp only [List.set_cons_succ]); (try simp only [List.set_cons_zero]))
          refine takeL (i := 19) rfl (by kernel_rfl) (by kernel_rfl) (by kernel_rfl) (fun _ _ _ _ h => h) hHeld ?_ (Or.inl ⟨by rfl, ?_⟩) ?_
          rotate_left
          · intro W hW
            (try dsimp only at hW)
            first | (go_simp; done) | (go_simp; with_reducible rfl)
          ((try simp only [Act.put]); (try simp only [List.setIfInBounds_toArray]); (try simp only [List.set_cons_succ]); (try simp only [List.set_cons_zero]))
          refine takeL (i := 20) rfl (by kernel_rfl) (by kernel_rfl) (by kernel_rfl) (fun _ _ _ _ h => h) hHeld ?_ (Or.inl ⟨by rfl, ?_⟩) ?_
          rotate_left
          · intro W hW
            (try dsimp only at hW)
            first | (go_simp; done) | (go_simp; with_reducible rfl)
          ((try simp only [Act.put]); (try simp only [List.setIfInBounds_toArray]); (try simp only [List.set_cons_succ]); (try simp only [List.set_cons_zero]))
          refine callL (i := 21) rfl (by kernel_rfl) (fun K hK => ?_)
          rw [if_pos (by rfl)]
          go_simp
          refine (hn2.out _).mono ?_
          rintro r w' ⟨rfl, rfl⟩
          clear hHeld
          refine hK.out _ _ ?_ (fun hHeld => ?_)
          · exact gm_cells (g := gBeat) (d := .slice ka 0 kc) H (.here _ _)
          clear hK K
          ((try simp only [Act.put]); (try simp only [List.setIfInBounds_toArray]); (try simp only [List.set_cons_succ]); (try simp only [List.set_cons_zero]))
          refine takeL (i := 22) rfl (by kernel_rfl) (by kernel_rfl) (by kernel_rfl) (fun _ _ _ _ h => h) hHeld ?_ (Or.inl ⟨by rfl, ?_⟩) ?_
          rotate_left
          · intro W hW
            (try dsimp only at hW)
            first | (go_simp; done) | (go_simp; with_reducible rfl)
          ((try simp only [Act.put]); (try simp only [List.setIfInBounds_toArray]); (try simp only [List.set_cons_succ]); (try simp only [List.set_cons_zero]))
          refine takeL (i := 23) rfl (by kernel_rfl) (by kernel_rfl) (by kernel_rfl) (fun _ _ _ _ h => h) hHeld ?_ (Or.inl ⟨by rfl, ?_⟩) ?_
          rotate_left
          · intro W hW
            (try dsimp only at hW)
            first | (go_simp; done) | (go_simp; with_reducible rfl)
          ((try simp only [Act.put]); (try simp only [List.setIfInBounds_toArray]); (try simp only [List.set_cons_succ]); (try simp only [List.set_cons_zero]))
          refine takeL (i := 24) rfl (by kernel_rfl) (by kernel_rfl) (by kernel_rfl) (fun _ _ _ _ h => h) hHeld ?_ (Or.inl ⟨by rfl, ?_⟩) ?_
          rotate_left
          · intro W hW
            (try dsimp only at hW)
            first | (go_simp; done) | (go_simp; with_reducible rfl)
          ((try simp only [Act.put]); (try simp only [List.setIfInBounds_toArray]); (try simp only [List.set_cons_succ]); (try simp only [List.set_cons_zero]))
          refine callL (i := 25) rfl (by kernel_rfl) (fun K hK => ?_)
          rw [if_pos (by rfl)]
          go_simp
          refine (hn0.out _).mono ?_
          rintro r w' ⟨rfl, rfl⟩
          clear hHeld
          refine hK.out _ _ ?_ (fun hHeld => ?_)
          · exact gm_cells (g := gBeat) (d := .slice ka 0 kc) H (.here _ _)
          clear hK K
          ((try simp only [Act.put]); (try simp only [List.setIfInBounds_toArray]); (try simp only [List.set_cons_succ]); (try simp only [List.set_cons_zero]))
          refine takeL (i := 26) rfl (by kernel_rfl) (by kernel_rfl) (by kernel_rfl) (fun _ _ _ _ h => h) hHeld ?_ (Or.inl ⟨by rfl, ?_⟩) ?_
          rotate_left
          · intro W hW
            (try dsimp only at hW)
            first | (go_simp; done) | (go_simp; with_reducible rfl)
          ((try simp only [Act.put]); (try simp only [List.setIfInBounds_toArray]); (try simp only [List.set_cons_succ]); (try simp only [List.set_cons_zero]))
          refine takeL (i := 27) rfl (by kernel_rfl) (by kernel_rfl) (by kernel_rfl) (fun _ _ _ _ h => h) hHeld ?_ (Or.inl ⟨by rfl, ?_⟩) ?_
          rotate_left
          · intro W hW
            (try dsimp only at hW)
            first | (go_simp; done) | (go_simp; with_reducible rfl)
          ((try simp only [Act.put]); (try simp only [List.setIfInBounds_toArray]); (try simp only [List.set_cons_succ]); (try simp only [List.set_cons_zero]))
          refine takeL (i := 28) rfl (by kernel_rfl) (by kernel_rfl) (by kernel_rfl) (fun _ _ _ _ h => h) hHeld ?_ (Or.inl ⟨by rfl, ?_⟩) ?_
          rotate_left
          · intro W hW
            (try dsimp only at hW)
            first | (go_simp; done) | (go_simp; with_reducible rfl)
          ((try simp only [Act.put]); (try simp only [List.setIfInBounds_toArray]); (try simp only [List.set_cons_succ]); (try simp only [List.set_cons_zero]))
          refine callL (i := 29) rfl (by kernel_rfl) (fun K hK => ?_)
          rw [if_pos (by rfl)]
          go_simp
          refine (hn4.out _).mono ?_
          rintro r w' ⟨rfl, rfl⟩
          clear hHeld
          refine hK.out _ _ ?_ (fun hHeld => ?_)
          · exact gm_cells (g := gBeat) (d := .slice ka 0 kc) H (.here _ _)
          clear hK K
          ((try simp only [Act.put]); (try simp only [List.setIfInBounds_toArray]); (try simp only [List.set_cons_succ]); (try simp only [List.set_cons_zero]))
          refine takeL (i := 30) rfl (by kernel_rfl) (by kernel_rfl) (by kernel_rfl) (fun _ _ _ _ h => h) hHeld ?_ (Or.inl ⟨by rfl, ?_⟩) ?_
          rotate_left
          · intro W hW
            (try dsimp only at hW)
            first | (go_simp; done) | (go_simp; with_reducible rfl)
          ((try simp only [Act.put]); (try simp only [List.setIfInBounds_toArray]); (try simp only [List.set_cons_succ]); (try simp only [List.set_cons_zero]))
          refine takeL (i := 31) rfl (by kernel_rfl) (by kernel_rfl) (by kernel_rfl) (fun _ _ _ _ h => h) hHeld ?_ (Or.inl ⟨by rfl, ?_⟩) ?_
          rotate_left
          · intro W hW
            (try dsimp only at hW)
            first | (go_simp; done) | (go_simp; with_reducible rfl)
          ((try simp only [Act.put]); (try simp only [List.setIfInBounds_toArray]); (try simp only [List.set_cons_succ]); (try simp only [List.set_cons_zero]))
          refine takeL (i := 32) rfl (by kernel_rfl) (by kernel_rfl) (by kernel_rfl) (fun _ _ _ _ h => h) hHeld ?_ (Or.inl ⟨by rfl, ?_⟩) ?_
          rotate_left
          · intro W hW
            (try dsimp only at hW)
            first | (go_simp; done) | (go_simp; with_reducible rfl)
          ((try simp only [Act.put]); (try simp only [List.setIfInBounds_toArray]); (try simp only [List.set_cons_succ]); (try simp only [List.set_cons_zero]))
          refine wpAnyH_done (by kernel_rfl) ?_ _
          have hH := Lib.hid H
          clear H hHeld
          go_wp2_with fail
          refine (alive_c hH.out (fun V hV => htab.out _ _ _ hV (.there (.here _ _)))).mono ?_
          rintro e v12 ⟨rfl, H⟩
          clear hH
          have hH := Lib.hid H
          clear H
          go_wp2_with fail
          go_ret
          exact ⟨rfl, hH.out.kp (.there (.here _ _))⟩
theorem walkNames (w : World) (tab : TabU w) : Calls Tryd.prog 6 #[] w fun e w' => e = .returned (.bool true) ∧ Below w.heap.size w w' := (names_c w tab).mono fun e w' hh => ⟨hh.1, hh.2.self_below⟩
end Go.Proofs.YtilpkfgdlehmpaaDoor
