/- The writer: Small, Text, Bytes. -/
import Derived.Test.YtilpkfgdlehmpaaDoorWrt
namespace Go.Proofs.YtilpkfgdlehmpaaDoor
open Go.RowKit Go.Shelf
set_option linter.unusedVariables false

section
variable {p : Nat} {bs : List Int} {L : List Pc} {w : World}
set_option maxRecDepth 100000 in
theorem wsmall_c (H : WrAt p bs L w) (n : Nat) (m : Int) (hm : (n : Int) ≤ m ∧ m ≤ 1000000) (hb : bs.length ≤ 6000) :
    Calls Tryd.prog 26 #[ptrV p, .int .i64 (n : Int), .int .i64 m] w fun e w' => (∃ v, e = .returned v) ∧ WrAt p (bs ++ nB n) L w' := by
  have hu := Lib.hid (wuint_c H n (by omega) hb)
  obtain ⟨hm1, hm2⟩ := hm
  clear H hb
  unfold ptrV at *
  go_enter Tryd.func26, Tryd.ntmps26
  go_wp2_with fail
  refine hu.out.mono ?_
  rintro e w2 ⟨⟨v, rfl⟩, H2⟩
  have hH := Lib.hid H2
  clear hu H2
  go_wp2_with fail
  go_end0
  exact ⟨⟨_, rfl⟩, hH.out⟩

set_option maxRecDepth 100000 in
set_option maxHeartbeats 4000000 in
theorem wtext_c (H : WrAt p bs L w) (a : Option Addr) (c : Nat) (l : List Int) (m : Int) (hl : (l.length : Int) ≤ m ∧ m ≤ 1000000) (hl6 : l.length ≤ 6000) (hb : bs.length ≤ 5900) (hnil : a = none → c = 0) (hr : ∀ V, SL V L → RdB V a l) :
    Calls Tryd.prog 29 #[ptrV p, .slice a l.length c, .int .i64 m] w fun e w' => (∃ v, e = .returned v) ∧ WrAt p (bs ++ nB l.length ++ l) L w' := by
  have hs := Lib.hid (wsmall_c H l.length m hl (by omega))
  have hr' := Lib.hid hr
  have hnil' := Lib.hid hnil
  have hl10 := nB_len64 (n := l.length) (by omega)
  have hbl : (bs ++ nB l.length).length ≤ 5910 := by rw [List.length_append]; omega
  obtain ⟨n, hn⟩ : ∃ n, l.length = n := ⟨_, rfl⟩
  have hn' := Lib.hid hn
  rw [hn] at hs hbl hl6 ⊢
  generalize bs ++ nB n = b2 at *
  clear H hb hl hl10 hr hnil hn
  unfold ptrV at *
  go_enter Tryd.func29, Tryd.ntmps29
  go_wp2_with fail
  refine hs.out.mono ?_
  rintro e w2 ⟨⟨v, rfl⟩, H2⟩
  clear hs
  have hf := Lib.hid (fine_c H2)
  unfold ptrV at hf
  obtain ⟨sa, sc, HS⟩ := H2
  obtain ⟨m2, hm2⟩ : ∃ m2, b2.length = m2 := ⟨_, rfl⟩
  have hm2' := Lib.hid hm2
  rw [hm2] at HS hbl
  have hH := Lib.hid HS
  clear HS hm2
  go_wp2_with fail
  refine hf.out.mono ?_
  rintro e w3 ⟨rfl, rfl⟩
  clear hf
  have c0 := hH.out.cell (b := p) (o := 0) (.here _ _) rfl
  have hrd := Lib.hid ((hr'.out _ hH.out.tail.tail).rd)
  go_wp2_with (
    at_builtin
    refine sl_app hH.out rfl _ _ _ rfl elemB _ rfl (.there (.here _ _)) (bv l) rfl (by rw [bv_length, Nat.mul_one]; exact hn'.out) hrd.out (bv_one l) (by simp only [maxLen]; omega) (by omega) hnil'.out ?_
    intro v1 w4 H4 hnil1
    obtain ⟨a4, c4, rfl, -⟩ := OwnK.slice H4.head
    have c1 := H4.cell (b := p) (o := 0) (.there (.here _ _)) rfl
    have f1 := H4.free (b := p) (.there (.here _ _)) 0
    have hfin := Lib.hid ((H4.re (.step (.there (.here _ _)) (.same _))).setCell 0 (.slice a4 (m2 + n) c4))
    clear hH hrd H4 hnil1 c0)
  go_end0
  have e : (b2 ++ l).length = m2 + n := by rw [List.length_append, hm2'.out, hn'.out]
  refine ⟨⟨_, rfl⟩, a4, c4, ?_⟩
  rw [e, bv_append]
  exact hfin.out

set_option maxRecDepth 100000 in
theorem wbytes_c (H : WrAt p bs L w) (hb : bs.length ≤ 6000) :
    Calls Tryd.prog 30 #[ptrV p] w fun e w' => ∃ a' c', e = .returned (.tuple #[.slice a' bs.length c', .int .i64 0]) ∧ SL w' (.own 5 1 (.slice a' bs.length c') bs.length (bv bs) :: L) := by
  obtain ⟨a, c, HS⟩ := H
  have c0 := HS.cell (b := p) (o := 0) (.here _ _) rfl
  have c1 := HS.cell (b := p) (o := 1) (.here _ _) rfl
  have c2 := HS.cell (b := p) (o := 2) (.here _ _) rfl
  have hcl := Lib.hid (clone_c bs a c w HS (by omega) (OwnK.rdB (show OwnK w 0 5 1 (.slice a bs.length c) bs.length (bv bs) from HS.ownOf (.there (.here _ _)))).2.2 (by
    obtain ⟨a2, c3, e2, -, -, h, -⟩ := OwnK.slice (show OwnK w 0 5 1 (.slice a bs.length c) bs.length (bv bs) from HS.ownOf (.there (.here _ _)))
    simp only [Value.slice.injEq] at e2
    obtain ⟨rfl, -, rfl⟩ := e2
    exact h))
  clear HS
  unfold ptrV at *
  go_enter Tryd.func30, Tryd.ntmps30
  go_wp2_with fail
  refine hcl.out.mono ?_
  rintro e w2 ⟨a', c', rfl, H2⟩
  have hH := Lib.hid (H2.re (.step (.here _ _) (.drop (.drop (.same _)))))
  clear hcl H2 c0 c1 c2
  go_wp2_with fail
  go_ret2
  exact ⟨_, _, rfl, hH.out⟩
end
end Go.Proofs.YtilpkfgdlehmpaaDoor
