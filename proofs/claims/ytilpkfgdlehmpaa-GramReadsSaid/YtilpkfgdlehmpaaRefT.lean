/- The reference's reader: Uint, Small, Text. -/
import Derived.Test.YtilpkfgdlehmpaaRefU
import Derived.Test.YtilpkfgdlehmpaaOrder
import Derived.StillTailTactics
namespace Go.Proofs.Ytilpkfgdlehmpaa
open Go.RowKit Go.Shelf
set_option linter.unusedVariables false

section
variable {a : Option Addr} {c : Nat} {B : List Int} {v : Value} {n : Nat} {xs : List Value} {r : Nat} {st : RdSt18} {L : List Pc} {w : World}
theorem ruint_c (H : RfrAt a c B v n xs r st L w) : Calls Try.prog 19 #[ptrV r] w fun e w' => e = .returned (.int .u64 (upK st most64).1) ∧ RfrAt a c B v n xs r (upK st most64).2 L w' := by
  have hu := Lib.hid (rupto_c H most64)
  clear H
  unfold ptrV most64 at *
  go_enter Try.func19, Try.ntmps19
  go_wp2_with fail
  refine hu.out.mono ?_
  rintro e w2 ⟨rfl, H2⟩
  have hH := Lib.hid H2
  clear hu H2
  go_wp2_with fail
  go_ret
  exact ⟨rfl, hH.out⟩
theorem RfrAt.bytes (H : RfrAt a c B v n xs r st L w) : ∀ x ∈ st.1, byteK x := by
  obtain ⟨k, -, -, -, -, h, hb, -⟩ := H
  rw [h]
  exact fun x hx => hb x (List.mem_of_mem_drop hx)
theorem rsmall_c (H : RfrAt a c B v n xs r st L w) {m : Int} (hm : 0 ≤ m ∧ m ≤ 1000000) : Calls Try.prog 18 #[ptrV r, .int .i64 m] w fun e w' => e = .returned (.int .i64 (upK st m).1) ∧ RfrAt a c B v n xs r (upK st m).2 L w' := by
  have hu := Lib.hid (rupto_c H m)
  have hb := upK_le (st := st) hm.1 H.bytes
  clear H
  generalize (upK st m).1 = z at *
  generalize (upK st m).2 = st2 at *
  obtain ⟨hm0, hm1⟩ := hm
  obtain ⟨hz0, hz1⟩ := hb
  unfold ptrV at *
  go_enter Try.func18, Try.ntmps18
  go_wp2_with fail
  refine hu.out.mono ?_
  rintro e w2 ⟨rfl, H2⟩
  have hH := Lib.hid H2
  clear hu H2
  go_wp2_with fail
  go_ret
  exact ⟨rfl, hH.out⟩

/-- A reader goes back to where it stood, spoilt. -/
theorem RfrAt.back {k : Nat} {bs : List Int} (hnil : B.length ≤ c ∧ (a = none → c = 0)) (hl6 : B.length ≤ 6000) (hk : k ≤ B.length) (hst : bs = B.drop k) (hby : ∀ x ∈ B, byteK x) (hrd : ∀ V M, SL V (.own 5 1 v n xs :: M) → RdY V a B)
    {k2 : Nat} {l2 : Bool} {V : World} (h : SL V (.blk r [.slice a B.length c, .int .i64 k2, .bool l2] 55 :: .own 5 1 v n xs :: L)) :
    RfrAt a c B v n xs r (bs, true) L ((V.setCell ⟨r, 1, none⟩ (.int .i64 k)).setCell ⟨r, 2, none⟩ (.bool true)) :=
  ⟨k, (h.setCell 1 (.int .i64 k)).setCell 2 (.bool true), hnil, hl6, hk, hst, hby, hrd⟩
theorem RfrAt.drewN (H : RfrAt a c B v n xs r st L w) (m : Nat) : RfrAt a c B v n xs r st L (w.drewN m) := by
  obtain ⟨k, HS, h⟩ := H
  exact ⟨k, HS.drewN m, h⟩

theorem slice_lh (a : Option Addr) (N c k Z : Nat) (h : k + Z ≤ c) (w : World) : (Instr.slice 22 (.slice a N c) (some (.int .i64 (k : Int))) (some (.int .i64 ((k + Z : Nat) : Int))) none).run Try.prog w = .ok (.slice (if c = k then a else a.map (·.add k)) Z (c - k)) w := by
  rw [run_slice_lh (P := Try.prog) (w := w) (t := 22) (a := a) (len := N) (cap := c) (ht := by kernel_rfl) (kl := .i64) (kh := .i64) (l := k) (h := ((k + Z : Nat) : Int)) (by omega) (by omega) (by omega)]
  rw [show (sizeOf (Try.prog.elem 22)).run Try.prog w = .ok 1 w by kernel_rfl]
  simp [Result.andThen, sliced]
  omega
theorem RdY.sub {a : Option Addr} {B : List Int} (h : RdY w a B) {c k Z : Nat} (hZ : k + Z ≤ B.length) (hc : B.length ≤ c) : RdB w (if c = k then a else a.map (·.add k)) ((B.drop k).take Z) := by
  intro i hi
  rw [List.length_take, List.length_drop] at hi
  obtain ⟨b, o, rfl, g⟩ := h (k + i) (by omega)
  rw [if_neg (by omega)]
  refine ⟨b, o + k, by first | rw [Option.map_some, Addr.add_lit] | simp [Addr.add], ?_⟩
  rw [Nat.add_assoc, g]
  dsimp only
  rw [List.getD_eq_getElem?_getD, List.getElem?_take, if_pos (by omega), List.getElem?_drop, List.getElem?_eq_getElem (by omega)]
  rfl

set_option maxRecDepth 100000 in
set_option maxHeartbeats 8000000 in
theorem rtext_c (H : RfrAt a c B v n xs r st L w) {m : Int} (hm : 0 ≤ m ∧ m ≤ 1000000) :
    Calls Try.prog 20 #[ptrV r, .int .i64 m] w fun e w' => ∃ a' c', e = .returned (.slice a' (textK st m).1.length c') ∧ RfrAt a c B v n xs r (textK st m).2 (.own 5 1 (.slice a' (textK st m).1.length c') (textK st m).1.length (bv (textK st m).1) :: L) w' := by
  have hsm := Lib.hid (rsmall_c H hm)
  have hb0 := (upK_le (st := st) hm.1 H.bytes).1
  have hnil2 : Hid (∀ V st' M, RfrAt a c B v n xs r st' M V → RfrAt a c B v n xs r st' (.own 5 1 (.slice none 0 0) 0 [] :: M) V) := Lib.hid fun V st' M ⟨k, h, h1⟩ => ⟨k, (h.pure (q := .own 5 1 (.slice none 0 0) 0 []) (OwnK.nil _ _ _ _) (fun b h => by cases h)).re (.step (.there (.here _ _)) (.step (.there (.here _ _)) (.same _))), h1⟩
  by_cases hl : st.2 = true
  · have e1 : textK st m = ([], st) := by unfold textK; rw [if_pos hl]
    have e2 : upK st m = (0, st) := upK_lost hl m
    rw [e2] at hsm
    rw [e1]
    obtain ⟨k, HS, ⟨hlc, hnil⟩, hl6, hk, hst, hby, hrd⟩ := H
    have c1 := HS.cell (b := r) (o := 1) (.here _ _) rfl
    obtain ⟨bs, lost⟩ := st
    obtain rfl : lost = true := hl
    dsimp only at hst
    have hfin : Hid (∀ (k2 : Nat) l2 V, SL V (.blk r [.slice a B.length c, .int .i64 k2, .bool l2] 55 :: .own 5 1 v n xs :: L) → RfrAt a c B v n xs r (bs, true) (.own 5 1 (.slice none 0 0) 0 [] :: L) ((V.setCell ⟨r, 1, none⟩ (.int .i64 k)).setCell ⟨r, 2, none⟩ (.bool true))) := Lib.hid fun k2 l2 V h => hnil2.out _ _ _ (RfrAt.back ⟨hlc, hnil⟩ hl6 hk hst hby hrd h)
    clear HS hnil2 e1 e2 hb0 hst hby hrd
    unfold ptrV at *
    go_enter Try.func20, Try.ntmps20
    go_wp2_with fail
    refine hsm.out.mono ?_
    rintro e w2 ⟨rfl, k2, HS2, -⟩
    dsimp only at HS2
    have hH2 := Lib.hid HS2
    have c1 := HS2.cell (b := r) (o := 1) (.here _ _) rfl
    have c2 := HS2.cell (b := r) (o := 2) (.here _ _) rfl
    have f1 := HS2.free (b := r) (.here _ _) 1
    have f2 := HS2.free (b := r) (.here _ _) 2
    clear hsm HS2
    go_wp2_with fail
    go_quiet (fail)
    have hf := Lib.hid (hfin.out _ _ _ (hH2.out.drewN nq))
    clear hfin hH2
    go_wp2_with fail
    go_ret
    exact ⟨none, 0, rfl, hf.out⟩
  obtain ⟨k, HS, ⟨hlc, hnil⟩, hl6, hk, hst, hby, hrd⟩ := H
  have c1 := HS.cell (b := r) (o := 1) (.here _ _) rfl
  obtain ⟨z, hz⟩ : ∃ z, (upK st m).1 = z := ⟨_, rfl⟩
  obtain ⟨s1, hs1⟩ : ∃ s1, (upK st m).2 = s1 := ⟨_, rfl⟩
  have etx : textK st m = if s1.2 = true ∨ (s1.1.length : Int) < z then ([], (st.1, true)) else (s1.1.take z.toNat, (s1.1.drop z.toNat, false)) := by
    unfold textK
    rw [if_neg hl, hs1, hz]
  rw [hz, hs1] at hsm
  rw [hz] at hb0
  by_cases hbad : s1.2 = true ∨ (s1.1.length : Int) < z
  · rw [if_pos hbad] at etx
    rw [etx]
    have hfin : Hid (∀ (k2 : Nat) l2 V, SL V (.blk r [.slice a B.length c, .int .i64 k2, .bool l2] 55 :: .own 5 1 v n xs :: L) → RfrAt a c B v n xs r (st.1, true) (.own 5 1 (.slice none 0 0) 0 [] :: L) ((V.setCell ⟨r, 1, none⟩ (.int .i64 k)).setCell ⟨r, 2, none⟩ (.bool true))) := Lib.hid fun k2 l2 V h => hnil2.out _ _ _ (RfrAt.back ⟨hlc, hnil⟩ hl6 hk hst hby hrd h)
    clear HS hl hz hs1 etx hrd hby hnil2 hst hnil
    unfold ptrV at *
    go_enter Try.func20, Try.ntmps20
    go_wp2_with fail
    refine hsm.out.mono ?_
    rintro e w2 ⟨rfl, k2, HS2, -, -, hk2, hst2, -⟩
    have hH2 := Lib.hid HS2
    clear c1
    have c0 := HS2.cell (b := r) (o := 0) (.here _ _) rfl
    have c1 := HS2.cell (b := r) (o := 1) (.here _ _) rfl
    have c2 := HS2.cell (b := r) (o := 2) (.here _ _) rfl
    have f1 := HS2.free (b := r) (.here _ _) 1
    have f2 := HS2.free (b := r) (.here _ _) 2
    clear hsm HS2
    obtain ⟨b1, l1⟩ := s1
    dsimp only at *
    have hbl : b1.length + k2 = B.length := by rw [hst2, List.length_drop]; omega
    clear hst2
    generalize b1.length = N1 at *
    generalize B.length = N at *
    cases l1 with
    | true =>
      clear hbad hbl
      go_wp2_with fail
      go_quiet (fail)
      have hf := Lib.hid (hfin.out _ _ _ (hH2.out.drewN nq))
      clear hfin hH2
      go_wp2_with fail
      go_ret
      exact ⟨none, 0, rfl, hf.out⟩
    | false =>
      have hlt : (N : Int) - (k2 : Int) < z := by have := hbad.resolve_left (by decide); omega
      have hlb : decide ((N : Int) - (k2 : Int) < z) = true := by simpa using hlt
      have hwr : IntKind.i64.wrap ((N : Int) - (k2 : Int)) = (N : Int) - (k2 : Int) := IntWalk.i64_in _ (by omega)
      clear hbad hlt hbl
      go_wp2_with fail
      go_quiet (fail)
      have hf := Lib.hid (hfin.out _ _ _ (hH2.out.drewN nq))
      clear hfin hH2
      go_wp2_with fail
      go_ret
      exact ⟨none, 0, rfl, hf.out⟩
  · rw [if_neg hbad] at etx
    rw [etx]
    obtain ⟨hb1, hb2⟩ := not_or.1 hbad
    have hs1f : s1.2 = false := by simpa using hb1
    obtain ⟨Z, rfl⟩ := Int.eq_ofNat_of_zero_le hb0
    rw [Int.toNat_natCast]
    have htl : (s1.1.take Z).length = Z := by rw [List.length_take]; omega
    dsimp only
    rw [htl]
    obtain ⟨ys, hys⟩ : ∃ ys, s1.1.take Z = ys := ⟨_, rfl⟩
    rw [hys] at htl ⊢
    have htl' := Lib.hid htl
    have hys' := Lib.hid hys
    clear hys
    clear HS hl hz hs1 etx hbad hb1 htl hb0 hk hst
    unfold ptrV at *
    go_enter Try.func20, Try.ntmps20
    go_wp2_with fail
    refine hsm.out.mono ?_
    rintro e w2 ⟨rfl, k2, HS2, -, -, hk2, hst2, -, -⟩
    clear c1
    rw [hs1f] at HS2
    have hH2 := Lib.hid (HS2.pure (q := .own 5 1 (.slice none 0 0) 0 []) (OwnK.nil _ _ _ _) (fun b h => by cases h))
    have c0 := HS2.cell (b := r) (o := 0) (.here _ _) rfl
    have c1 := HS2.cell (b := r) (o := 1) (.here _ _) rfl
    have c2 := HS2.cell (b := r) (o := 2) (.here _ _) rfl
    have f1 := HS2.free (b := r) (.here _ _) 1
    have hbl : s1.1.length + k2 = B.length := by rw [hst2, List.length_drop]; omega
    have hZ : k2 + Z ≤ B.length := by omega
    have hty : Hid (ys = (B.drop k2).take Z) := Lib.hid (by rw [← hys'.out, hst2])
    have hfin : Hid (∀ V a' c', SL V (.own 5 1 (.slice a' Z c') Z (bv (ys)) :: .blk r [.slice a B.length c, .int .i64 k2, .bool false] 55 :: .own 5 1 v n xs :: L) → RfrAt a c B v n xs r (s1.1.drop Z, false) (.own 5 1 (.slice a' Z c') Z (bv (ys)) :: L) (V.setCell ⟨r, 1, none⟩ (.int .i64 ((k2 : Int) + (Z : Int))))) := Lib.hid fun V a' c' h => by
      rw [show (k2 : Int) + (Z : Int) = ((k2 + Z : Nat) : Int) by omega]
      have h5 := (h.re (.step (.there (.here _ _)) (.step (.there (.here _ _)) (.step (.here _ _) (.same _))))).setCell 1 (.int .i64 ((k2 + Z : Nat) : Int))
      exact ⟨k2 + Z, h5, ⟨hlc, hnil⟩, hl6, hZ, by dsimp only; rw [hst2, List.drop_drop], hby, hrd⟩
    have hrd2 : Hid (∀ V, SL V (.blk r [.slice a B.length c, .int .i64 k2, .bool false] 55 :: .own 5 1 v n xs :: L) → RdY V a B) := Lib.hid fun V h => hrd V _ (h.re (.step (.there (.here _ _)) (.same _)))
    have hyb : Hid (∀ u ∈ bv (ys), u.oneCell' = true) := Lib.hid (bv_one _)
    clear hsm HS2 hnil2 hst2 hbl hb2 hby hrd hs1f
    obtain ⟨N, hN⟩ : ∃ N, B.length = N := ⟨_, rfl⟩
    have hN' := Lib.hid hN
    rw [hN] at hlc hl6 hk2 hZ c0 hfin hrd2 hH2
    clear hN
    have hwr : IntKind.i64.wrap ((N : Int) - (k2 : Int)) = (N : Int) - (k2 : Int) := IntWalk.i64_in _ (by omega)
    have hlb : decide ((N : Int) - (k2 : Int) < (Z : Int)) = false := by simp; omega
    go_wp2_with fail
    go_quiet (fail)
    have hH3 := Lib.hid (hH2.out.drewN nq)
    clear hH2 hwr hlb
    go_wp2_with fail
    generalize w2.drewN nq = w3 at *
    clear c0 c1 c2 f1
    have c0 := hH3.out.cell (b := r) (o := 0) (.there (.here _ _)) rfl
    have c1 := hH3.out.cell (b := r) (o := 1) (.there (.here _ _)) rfl
    have hw2 : IntKind.i64.wrap ((k2 : Int) + (Z : Int)) = (k2 : Int) + (Z : Int) := IntWalk.i64_in _ (by omega)
    obtain ⟨sa, hsa⟩ : ∃ sa, (if c = k2 then a else a.map (·.add k2)) = sa := ⟨_, rfl⟩
    have t1 : ((k2 : Int) + (Z : Int)).toNat = k2 + Z := by omega
    have t2 : (k2 : Int) + (Z : Int) ≤ (c : Int) := by omega
    have t3 : 0 ≤ (k2 : Int) + (Z : Int) := by omega
    have hrs : Hid (∀ V, SL V (.blk r [.slice a N c, .int .i64 k2, .bool false] 55 :: .own 5 1 v n xs :: L) → RdB V sa ys) := Lib.hid fun V h => by
      have := (hrd2.out V h).sub (c := c) (k := k2) (Z := Z) (by rw [hN'.out]; exact hZ) (by rw [hN'.out]; exact hlc)
      rw [hsa, ← hty.out] at this
      exact this
    have hsn : Hid (sa = none → c - k2 = 0) := Lib.hid fun h => by
      by_cases hck : c = k2
      · omega
      · rw [if_neg hck] at hsa
        have : a = none := by
          cases a with
          | none => rfl
          | some x => rw [h] at hsa; cases hsa
        have := hnil this
        omega
    clear hrd2 hnil hty hys'
    go_still_tail 16, (by kernel_rfl)
    change wpList _ _ _ _ _ w3.drew
    have hH4 := Lib.hid hH3.out.drew
    have hrs4 := Lib.hid (hrs.out _ (hH4.out.tail))
    generalize w3.drew = w4 at *
    clear hH3 c0 c1 hrs hsa hw2 t1 t2 t3
    go_wp2_with (
      at_builtin
      refine sl_app hH4.out rfl _ _ _ rfl elemB _ rfl (.here _ _) (bv ys) rfl (by rw [bv_length, Nat.mul_one]; exact htl'.out) hrs4.out.rd hyb.out (by simp only [maxLen]; omega) (by omega) hsn.out ?_
      intro v' w5 H5 hnil'
      clear hH4 hrs4
      obtain ⟨a', c', rfl, -⟩ := OwnK.slice H5.head
      rw [Nat.zero_add, List.nil_append] at H5
      rw [Nat.zero_add]
      have c1 := H5.cell (b := r) (o := 1) (.there (.here _ _)) rfl
      have f1 := H5.free (b := r) (.there (.here _ _)) 1
      have hf := Lib.hid (hfin.out _ _ _ H5)
      clear hfin H5 hnil' htl' hyb)
    go_ret
    exact ⟨_, _, rfl, hf.out⟩
end
end Go.Proofs.Ytilpkfgdlehmpaa
