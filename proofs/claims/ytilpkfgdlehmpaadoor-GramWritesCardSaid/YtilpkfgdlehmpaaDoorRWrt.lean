/- The reference's writer. -/
import Derived.Test.YtilpkfgdlehmpaaDoorSealS
import Derived.Test.YtilpkfgdlehmpaaDoorForm
import Derived.Test.YtilpkfgdlehmpaaDoorOwnMore
namespace Go.Proofs.YtilpkfgdlehmpaaDoor
open Go.RowKit Go.Shelf
set_option linter.unusedVariables false

set_option maxRecDepth 100000 in
set_option maxHeartbeats 4000000 in
theorem rform_c (n : Nat) (hn : n < 18446744073709551616) {L : List Pc} {w : World} (H : SL w L) :
    Calls Tryd.prog 57 #[.int .u64 (n : Int)] w fun e w' => ∃ a c, e = .returned (.slice a (nB n).length c) ∧ SL w' (.own 5 1 (.slice a (nB n).length c) (nB n).length (bv (nB n)) :: L) := by
  have h0 := Lib.hid (H.pure (q := .own 5 1 (.slice none 0 0) 0 (bv [])) (OwnK.nil _ _ _ _) (fun b h => by cases h))
  have hn' := Lib.hid hn
  clear H hn
  go_enter Tryd.func57, Tryd.ntmps57
  go_wp2_with fail
  go_loopw [4, 3, 0] (fun i o z V => ∃ (j y : Nat) (l : List Int) (a : Option Addr) (c : Nat), j ≤ 9 ∧ i = .int .i64 j ∧ o = .slice a j c ∧ z = .int .u64 (y : Int) ∧ Hid (l.length = j ∧ nB n = l ++ nB y ∧ y * 128 ^ j < 18446744073709551616) ∧ SL V (.own 5 1 (.slice a j c) j (bv l) :: L)) (fun i _ _ _ => 10 - (intOf i).toNat)
  case atStart => exact ⟨0, n, [], none, 0, by omega, rfl, rfl, rfl, Lib.hid ⟨rfl, rfl, by have := hn'.out; simpa using this⟩, h0.out⟩
  case round =>
    clear h0
    obtain ⟨j, y, l, a, c, hj, rfl, rfl, rfl, hR, H⟩ := hrel
    by_cases hy : y < 128
    · have hb1 : decide ((128 : Int) ≤ (y : Int)) = false := by simp; omega
      have hb2 : decide (128 ≤ y) = false := by simp; omega
      have hb3 : decide (j < 10) = true := by simp; omega
      have hj10 : j < 10 := by omega
      have hyw : (y : Int) % 256 = y := by omega
      have H1 := Lib.hid (H.alloc [.int .u8 (y : Int)] 5)
      have hres : Hid (nB n = l ++ [(y : Int)]) := Lib.hid (by rw [hR.out.2.1, nB_small hy])
      have hll := Lib.hid hR.out.1
      clear H hR
      go_wp2_with (
        at_builtin
        refine sl_app H1.out rfl _ _ _ rfl elemB _ rfl (.there (.here _ _)) [.int .u8 (y : Int)] rfl rfl (rd_newK wr 5 [.int .u8 (y : Int)]) (by simp [Value.oneCell']) (by simp only [maxLen]; omega) (by omega) (fun h => by cases h) ?_
        intro v3 w3 H3 hnil3
        obtain ⟨oa, oc, rfl, -⟩ := OwnK.slice H3.head
        have hO := Lib.hid (H3.re (.step (.here _ _) (.drop (.same _))))
        clear H1 hnil3 H3)
      go_ret
      have e : (nB n).length = j + 1 := by rw [hres.out, List.length_append, hll.out]; rfl
      have e2 : bv (nB n) = bv l ++ [.int .u8 (y : Int)] := by rw [hres.out, bv_append]; rfl
      rw [e, e2]
      exact ⟨oa, oc, rfl, hO.out⟩
    · have hj9 : j < 9 := by
        have h1 := hR.out.2.2
        by_cases h : j = 9
        · subst h
          have e : (128 : Nat) ^ 9 = 9223372036854775808 := by decide
          omega
        · omega
      have hy1 : 128 ≤ y := by omega
      have hb3 : decide (j < 10) = true := by simp; omega
      have hj10 : j < 10 := by omega
      have hb1 : decide ((128 : Int) ≤ (y : Int)) = true := by simp; omega
      obtain ⟨q, hq⟩ : ∃ q : Nat, y % 128 = q := ⟨_, rfl⟩
      have hq1 : (y : Int) % 128 = (q : Int) := by omega
      have hq2 : q < 128 := by omega
      have hw1 : IntKind.u64.wrap (128 + (q : Int)) = 128 + (q : Int) := by
        unfold IntKind.wrap
        simp [IntKind.bits, IntKind.signed]
        omega
      have hqw : (128 + (q : Int)) % 256 = 128 + (q : Int) := by omega
      have H1 := Lib.hid (H.alloc [.int .u8 (128 + (q : Int))] 5)
      have hres : Hid (nB n = (l ++ [128 + (q : Int)]) ++ nB (y / 128)) := Lib.hid (by
        rw [hR.out.2.1, nB_big (by omega), hq, List.append_assoc]
        congr 2
        omega)
      have hll := Lib.hid hR.out.1
      have hyd : Hid (IntKind.u64.wrap ((y : Int) / 128) = ((y / 128 : Nat) : Int)) := Lib.hid (by
        have h1 := hR.out.2.2
        have h2 : y ≤ y * 128 ^ j := Nat.le_mul_of_pos_right _ (Nat.pow_pos (by decide))
        unfold IntKind.wrap
        simp [IntKind.bits, IntKind.signed]
        omega)
      have hlim : Hid (y / 128 * 128 ^ (j + 1) < 18446744073709551616) := Lib.hid (by
        have h1 := hR.out.2.2
        have : y / 128 * 128 ^ (j + 1) ≤ y * 128 ^ j := by
          rw [Nat.pow_succ, Nat.mul_comm (128 ^ j) 128, ← Nat.mul_assoc]
          exact Nat.mul_le_mul_right _ (by omega)
        omega)
      clear H hR hq
      go_wp2_with (
        at_builtin
        refine sl_app H1.out rfl _ _ _ rfl elemB _ rfl (.there (.here _ _)) [.int .u8 (128 + (q : Int))] rfl rfl (rd_newK wr 5 [.int .u8 (128 + (q : Int))]) (by simp [Value.oneCell']) (by simp only [maxLen]; omega) (by omega) (fun h => by cases h) ?_
        intro v3 w3 H3 hnil3
        obtain ⟨oa, oc, rfl, -⟩ := OwnK.slice H3.head
        have hO := Lib.hid (H3.re (.step (.here _ _) (.drop (.same _))))
        clear H1 hnil3 H3)
      go_roundw
      case rel => exact ⟨j + 1, y / 128, l ++ [128 + (q : Int)], oa, oc, by omega, by go_num, rfl, by first | rfl | (rw [hyd.out]), Lib.hid ⟨by rw [List.length_append, hll.out]; rfl, hres.out, hlim.out⟩, by rw [bv_append]; exact hO.out⟩
      case measure => (simp [intOf]; try omega)

/-- The reference's writer at p has written bs. -/
def RwAt (p : Nat) (bs : List Int) (L : List Pc) (w : World) : Prop := ∃ (a : Option Addr) (c : Nat),
  SL w (.blk p [.slice a bs.length c, .bool false] 66 :: .own 5 1 (.slice a bs.length c) bs.length (bv bs) :: L)
section
variable {p : Nat} {bs : List Int} {L : List Pc} {w : World}
theorem RwAt.re {L' : List Pc} (H : RwAt p bs L w) (h : Re L L') : RwAt p bs L' w := by
  obtain ⟨a, c, hs⟩ := H
  exact ⟨a, c, hs.re (.step (.here _ _) (.step (.here _ _) h))⟩
theorem RwAt.sl (H : RwAt p bs L w) : SL w L := by
  obtain ⟨a, c, h⟩ := H
  exact h.tail.tail
theorem own_nil {w : World} {a : Option Addr} {m c : Nat} {l : List Int} (h : OwnK w 0 5 1 (.slice a m c) m (bv l)) : a = none → c = 0 := by
  obtain ⟨a2, c2, e2, -, -, h, -⟩ := OwnK.slice h
  simp only [Value.slice.injEq] at e2
  obtain ⟨rfl, -, rfl⟩ := e2
  exact h
set_option maxRecDepth 100000 in
set_option maxHeartbeats 4000000 in
theorem put_c (H : RwAt p bs L w) (a : Option Addr) (c : Nat) (l : List Int) (hl : l.length ≤ 6000) (hb : bs.length ≤ 6000) (hnil : a = none → c = 0) (hr : ∀ V, SL V L → RdB V a l) :
    Calls Tryd.prog 56 #[ptrV p, .slice a l.length c, .bool true] w fun e w' => (∃ v, e = .returned v) ∧ RwAt p (bs ++ l) L w' := by
  have hr' := Lib.hid hr
  have hnil' := Lib.hid hnil
  obtain ⟨sa, sc, HS⟩ := H
  obtain ⟨n, hn⟩ : ∃ n, l.length = n := ⟨_, rfl⟩
  have hn' := Lib.hid hn
  rw [hn] at hl ⊢
  obtain ⟨m, hm⟩ : ∃ m, bs.length = m := ⟨_, rfl⟩
  have hm' := Lib.hid hm
  rw [hm] at HS hb
  have HS2 := (HS.setCell 1 (.bool false)).pure (q := .own 5 1 (.slice none 0 0) 0 []) (OwnK.nil _ _ _ _) (fun b h => by cases h)
  have hH := Lib.hid HS2
  have c0 := HS.cell (b := p) (o := 0) (.here _ _) rfl
  have c1 := HS.cell (b := p) (o := 1) (.here _ _) rfl
  have f1 := HS.free (b := p) (.here _ _) 1
  have hK := HS2.ownOf (.there (.there (.here _ _)))
  have hk0 := Lib.hid (own_nil (l := bs) hK)
  have hk1 := Lib.hid ((OwnK.rdB (show OwnK _ 0 5 1 (.slice sa m sc) m (bv bs) from hK)).2.2.rd)
  clear HS HS2 hK hr hnil hn hm
  unfold ptrV
  go_enter Tryd.func56, Tryd.ntmps56
  go_wp2_with (first
    | (at_builtin
       refine sl_app hH.out rfl _ _ _ rfl elemB _ rfl (.here _ _) (bv bs) rfl (by rw [bv_length, Nat.mul_one]; exact hm'.out) hk1.out (bv_one bs) (by simp only [maxLen]; omega) (by omega) hk0.out ?_
       intro v1 w1 H1 hnil1
       rw [Nat.zero_add, List.nil_append] at H1
       have H2 := Lib.hid (H1.re (.step (.here _ _) (.step (.here _ _) (.drop (.same _)))))
       have hrl := Lib.hid ((hr'.out _ H2.out.tail.tail).rd)
       clear hH hk0 hk1 hnil1 H1 c0 c1 f1)
    | (at_builtin
       refine sl_app H2.out rfl _ _ _ rfl elemB _ rfl (.here _ _) (bv l) rfl (by rw [bv_length, Nat.mul_one]; exact hn'.out) hrl.out (bv_one l) (by simp only [maxLen]; omega) (by omega) hnil'.out ?_
       intro v3 w3 H3 hnil3
       obtain ⟨oa, oc, rfl, -⟩ := OwnK.slice H3.head
       have c0 := H3.cell (b := p) (o := 0) (.there (.here _ _)) rfl
       have f0 := H3.free (b := p) (.there (.here _ _)) 0
       have hO := Lib.hid ((H3.re (.step (.there (.here _ _)) (.same _))).setCell 0 (.slice oa (m + n) oc))
       clear H2 hnil3 H3 hrl))
  go_end0
  have e : (bs ++ l).length = m + n := by rw [List.length_append, hm'.out, hn'.out]
  refine ⟨⟨_, rfl⟩, oa, oc, ?_⟩
  rw [e, bv_append]
  exact hO.out
end
end Go.Proofs.YtilpkfgdlehmpaaDoor
