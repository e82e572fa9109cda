/- Numbers, rings. -/
import Derived.Test.YtcjmkpphohkofaaCpy
namespace Go.Proofs.Ytcjmkpphohkofaa
open Go.RowKit
set_option linter.unusedVariables false

/-- Numbers of 64 bits that are read. -/
def RdU (w : World) (a : Option Addr) (l : List Int) : Prop := ∀ i (hi : i < l.length), ∃ b o, a = some ⟨b, o, none⟩ ∧ w.cell? ⟨b, o + i, none⟩ = some (.int .u64 (l[i]'hi))
theorem RdU.no {w w' : World} {a : Option Addr} {l : List Int} (h : RdU w a l) (hk : Kp no w w') : RdU w' a l := fun i hi => by
  obtain ⟨b, o, e, hc⟩ := h i hi
  exact ⟨b, o, e, hk.cell hc (fun h => h)⟩
theorem own_u64 {w : World} {L : List Pc} {v : Value} {n : Nat} {l : List Int} (H : SL w (.own 30 1 v n (uv l) :: L)) : ∃ a c, v = .slice a l.length c ∧ l.length = n ∧ l.length ≤ c ∧ RdU w a l := by
  have hown : OwnK w 0 30 1 v n (uv l) := H.head
  rcases hown.form with ⟨rfl, e, e2⟩ | ⟨g, cap, rfl, -, -, hnc, -, hl, hc, -⟩
  · have : l = [] := by simpa [uv] using e2
    subst this
    exact ⟨none, 0, rfl, e.symm, Nat.le_refl _, fun i hi => by simp at hi⟩
  · have hl2 : l.length = n := by simpa [uv] using hl
    subst hl2
    refine ⟨_, cap, rfl, rfl, hnc, fun i hi => ⟨g, 0, rfl, ?_⟩⟩
    rw [Nat.zero_add, hc i (by omega)]
    simp [uv, List.getD_eq_getElem?_getD, hi]

set_option maxHeartbeats 4000000 in
theorem numbers_c (l : List Int) (hl : l.length ≤ 1000000) (a b : Option Addr) (ca cb : Nat) (w : World) (ra : RdU w a l) (rb : RdU w b l) (hca : l.length ≤ ca) (hcb : l.length ≤ cb) :
    Calls Try.prog 19 #[.slice a l.length ca, .slice b l.length cb] w fun e w' => e = .returned (.bool true) ∧ Kp no w w' := by
  have ra' := Lib.hid ra
  have rb' := Lib.hid rb
  clear ra rb
  have hk0 := Lib.hid (Kp.refl no w)
  obtain ⟨len, hlen⟩ : ∃ len, l.length = len := ⟨_, rfl⟩
  have hlen' := Lib.hid hlen
  rw [hlen] at hl hca hcb ⊢
  clear hlen
  go_enter Try.func19, Try.ntmps19
  go_wp2_with fail
  go_loopw [5] (fun i V => ∃ k : Nat, k ≤ len ∧ i = .int .i64 (k : Int) ∧ Kp no w V) (fun i _ => len - (intOf i).toNat)
  case atStart => exact ⟨0, by omega, rfl, hk0.out⟩
  case round =>
    clear hk0
    obtain ⟨k, hk, rfl, hkp⟩ := hrel
    by_cases hlt : k < len
    · have hkl : k < l.length := by rw [hlen'.out]; exact hlt
      obtain ⟨b1, o1, rfl, g1⟩ := (ra'.out.no hkp) k hkl
      obtain ⟨b2, o2, rfl, g2⟩ := (rb'.out.no hkp) k hkl
      generalize l[k]'hkl = y at *
      have hyy : (y != y) = false := by simp
      have hkp' := Lib.hid hkp
      clear hkp hkl
      go_wp2_with fail
      go_quiet (fail)
      have hk2 := Lib.hid (hkp'.out.drewN nq)
      clear g1 g2
      go_wp2_with fail
      go_roundw
      case rel => exact ⟨k + 1, by omega, by go_num, hk2.out⟩
      case measure => (simp [intOf]; try omega)
    · obtain rfl : k = len := by omega
      have hkp' := Lib.hid hkp
      clear hkp hlt
      go_wp2_with fail
      go_ret
      exact ⟨rfl, hkp'.out⟩

def tickN : Nat → Ck → Ck
  | 0, s => s
  | n + 1, s => tickS (tickN n s)
/-- By which ticks some ring. -/
def rtK (s : Ck) : Nat → List Int
  | 0 => []
  | n + 1 => rtK s n ++ if ringsK (tickN n s).l = [] then [] else [((n + 1 : Nat) : Int)]
theorem rtK_length (s : Ck) : ∀ n, (rtK s n).length ≤ n
  | 0 => Nat.le_refl _
  | n + 1 => by
    have := rtK_length s n
    unfold rtK
    rw [List.length_append]
    split
    · simp only [List.length_nil]; omega
    · simp only [List.length_singleton]; omega

section
variable {R : Int} {p : Nat} {s : Ck} {L : List Pc} {w : World}
set_option maxRecDepth 100000 in
set_option maxHeartbeats 8000000 in
theorem rings_c (H : CAt R p s L w) (N : Nat) (hN : N ≤ 1000000) (hR : R + N ≤ 1000000000) :
    Calls Try.prog 16 #[ptrV p, .int .i64 N] w fun e w' => ∃ a c, e = .returned (.slice a (rtK s N).length c) ∧ CAt (R + N) p (tickN N s) (.own 30 1 (.slice a (rtK s N).length c) (rtK s N).length (uv (rtK s N)) :: L) w' := by
  have hH : Hid (CAt (R + (0 : Nat)) p (tickN 0 s) (.own 30 1 (.slice none 0 0) 0 (uv (rtK s 0)) :: L) w) := Lib.hid (by
    rw [show R + ((0 : Nat) : Int) = R by omega]
    exact H.map fun N h => (h.pure (q := .own 30 1 (.slice none 0 0) 0 []) (OwnK.nil _ _ _ _) (fun b h => by cases h)).perm List.perm_middle.symm)
  clear H
  unfold ptrV
  go_enter Try.func16, Try.ntmps16
  go_wp2_with fail
  go_loopw [6, 5] (fun i x V => ∃ (j m : Nat) (a : Option Addr) (c : Nat), j ≤ N ∧ i = .int .i64 ((j : Int) + 1) ∧ x = .slice a m c ∧ Hid ((rtK s j).length = m ∧ CAt (R + (j : Nat)) p (tickN j s) (.own 30 1 (.slice a m c) m (uv (rtK s j)) :: L) V)) (fun i _ _ => N + 1 - (intOf i).toNat)
  case atStart => exact ⟨0, 0, none, 0, by omega, rfl, rfl, Lib.hid ⟨rfl, hH.out⟩⟩
  case round =>
    clear hH
    obtain ⟨j, m, a, c, hj, rfl, rfl, hRl⟩ := hrel
    by_cases hjN : j < N
    · have ht := Lib.hid (tick_c hRl.out.2 (by omega))
      have hm2 : m ≤ 1000000 := by have := rtK_length s j; rw [hRl.out.1] at this; omega
      have hst : Hid (rtK s (j + 1) = rtK s j ++ if ringsK (tickN j s).l = [] then [] else [((j + 1 : Nat) : Int)]) := Lib.hid rfl
      have hm := Lib.hid hRl.out.1
      obtain ⟨rk, hrk⟩ : ∃ rk, ringsK (tickN j s).l = rk := ⟨_, rfl⟩
      rw [hrk] at ht hst
      have htn : Hid (tickS (tickN j s) = tickN (j + 1) s) := Lib.hid rfl
      rw [htn.out] at ht
      clear hRl hrk htn
      unfold ptrV at *
      go_wp2_with fail
      refine ht.out.mono ?_
      rintro e w2 ⟨a2, c2, rfl, H2⟩
      have hH2 := Lib.hid (H2.re (.drop (.same _)))
      clear ht H2
      cases rk with
      | nil =>
        rw [if_pos rfl, List.append_nil] at hst
        rw [List.length_nil]
        have hrel : Hid ((rtK s (j + 1)).length = m ∧ CAt (R + ((j + 1 : Nat) : Int)) p (tickN (j + 1) s) (.own 30 1 (.slice a m c) m (uv (rtK s (j + 1))) :: L) w2) := Lib.hid ⟨by rw [hst.out]; exact hm.out, by rw [hst.out, show R + ((j + 1 : Nat) : Int) = R + (j : Int) + 1 by omega]; exact hH2.out⟩
        clear hH2 hst hm
        go_wp2_with fail
        go_roundw
        case rel => exact ⟨j + 1, m, a, c, by omega, by go_num, rfl, hrel⟩
        case measure => (simp [intOf]; try omega)
      | cons r0 rs =>
        rw [if_neg (by simp)] at hst
        rw [List.length_cons]
        generalize rs.length = n2 at *
        have hn2 : 0 < n2 + 1 := by omega
        have hcast : ((n2 + 1 : Nat) : Int) = (n2 : Int) + 1 := by omega
        obtain ⟨sl, HS, ok⟩ := hH2.out
        have hH3 := Lib.hid (show SL w2 (ckP p sl (tickN (j + 1) s) ++ (.own 30 1 (.slice a m c) m (uv (rtK s j)) :: L)) from HS)
        have hok := Lib.hid ok
        have hw64 : IntKind.u64.wrap ((j : Int) + 1) = (j : Int) + 1 := IntWalk.u64_in _ ⟨by omega, by omega⟩
        clear HS ok hH2
        go_wp2_with (
          at_builtin
          have H4 := (hH3.out.perm List.perm_middle).alloc [.int .u64 ((j : Int) + 1)] 30
          refine sl_app H4 rfl _ _ _ rfl elemU _ rfl (.there (.here _ _)) [.int .u64 ((j : Int) + 1)] rfl rfl (rd_newK _ _ _) (by simp [Value.oneCell']) (by simp only [maxLen]; omega) (by omega) (fun h => by cases h) ?_
          intro v' w3 H5 hnil
          obtain ⟨a3, c3, rfl, -⟩ := OwnK.slice H5.head
          have hH5 := Lib.hid (show CAt (R + (j : Int) + 1) p (tickN (j + 1) s) (.own 30 1 (.slice a3 (m + 1) c3) (m + 1) (uv (rtK s j) ++ [.int .u64 ((j : Int) + 1)]) :: L) w3 from ⟨sl, (H5.re (.step (.here _ _) (.drop (.same _)))).perm List.perm_middle.symm, hok.out⟩)
          clear H4 H5 hnil hH3)
        have hrel : Hid ((rtK s (j + 1)).length = m + 1 ∧ CAt (R + ((j + 1 : Nat) : Int)) p (tickN (j + 1) s) (.own 30 1 (.slice a3 (m + 1) c3) (m + 1) (uv (rtK s (j + 1))) :: L) w3) := Lib.hid ⟨by rw [hst.out, List.length_append, hm.out]; rfl, by
          have e : uv (rtK s (j + 1)) = uv (rtK s j) ++ [.int .u64 ((j : Int) + 1)] := by rw [hst.out]; unfold uv; rw [List.map_append]; rfl
          rw [e, show R + ((j + 1 : Nat) : Int) = R + (j : Int) + 1 by omega]
          exact hH5.out⟩
        go_roundw
        case rel => exact ⟨j + 1, m + 1, a3, c3, by omega, by go_num, rfl, hrel⟩
        case measure => (simp [intOf]; try omega)
    · obtain rfl : j = N := by omega
      have hR2 := hRl
      clear hRl
      go_wp2_with fail
      go_ret
      refine ⟨a, c, ?_, ?_⟩
      · rw [hR2.out.1]; rfl
      · rw [hR2.out.1]; exact hR2.out.2
end
end Go.Proofs.Ytcjmkpphohkofaa
