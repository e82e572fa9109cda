/- The walk of New. -/
import Derived.Test.YtaibdcglhibglaaMemA
namespace Go.Proofs.Ytaibdcglhibglaa
open Go.RowKit
set_option linter.unusedVariables false

def rangeI (k : Nat) : List Int := (List.range k).map fun i : Nat => (i : Int)
theorem rangeI_length (k : Nat) : (rangeI k).length = k := by simp [rangeI]
theorem rangeI_succ (k : Nat) : rangeI (k + 1) = rangeI k ++ [(k : Int)] := by simp [rangeI, List.range_succ]

theorem new_no (self nodes disp : Int) (w : World) (h : nodes < 1 ∨ 64 < nodes ∨ self < 0 ∨ disp < 0 ∨ nodes ≤ self ∨ nodes ≤ disp) :
    Calls Try.prog 17 #[.int .i64 self, .int .i64 nodes, .int .i64 disp] w fun e w' => e = .returned (.tuple #[.pointer none, .int .i64 240]) ∧ w = w' := by
  by_cases h1 : nodes < 1
  · clear h
    go_enter Try.func17, Try.ntmps17
    go_wp2_with fail
    go_ret2
    exact ⟨rfl, rfl⟩
  have h1' : 1 ≤ nodes := by omega
  by_cases h2 : 64 < nodes
  · clear h h1
    go_enter Try.func17, Try.ntmps17
    go_wp2_with fail
    go_ret2
    exact ⟨rfl, rfl⟩
  have h2' : nodes ≤ 64 := by omega
  by_cases h3 : min self disp < 0
  · clear h h1 h2
    go_enter Try.func17, Try.ntmps17
    go_wp2_with fail
    all_goals (go_ret2; exact ⟨rfl, rfl⟩)
  have h3' : 0 ≤ min self disp := by omega
  have h4 : nodes ≤ max self disp := by omega
  clear h h1 h2 h3
  go_enter Try.func17, Try.ntmps17
  go_wp2_with fail
  all_goals (go_ret2; exact ⟨rfl, rfl⟩)

set_option maxHeartbeats 8000000 in
theorem new_yes (self disp : Int) (n : Nat) {w : World} {L : List Pc} (H : SL w L) (h1 : 1 ≤ n) (h2 : n ≤ 64) (h3 : 0 ≤ self) (h4 : 0 ≤ disp) (h5 : self < n) (h6 : disp < n) :
    Calls Try.prog 17 #[.int .i64 self, .int .i64 n, .int .i64 disp] w fun e w' => ∃ p a c b, e = .returned (.tuple #[.pointer (some ⟨p, 0, none⟩), .int .i64 0]) ∧
      SL w' (MEM p self n disp 0 0 a c (rangeI n) 0 0 true b (fun _ => false) 0 L) := by
  have h3' : 0 ≤ min self disp := by omega
  have h4' : max self disp < n := by omega
  have H1 := (H.alloc [.int .i64 self, .int .i64 n, .int .i64 disp, .int .u32 0, .int .i64 0, .slice none 0 0, .int .u32 0, .int .i64 0, .bool false, .map none, .int .i64 0] 74).pure (q := .own 3 1 (.slice none 0 0) 0 []) (OwnK.nil _ _ _ _) (fun b h => by cases h)
  have hH := Lib.hid H1
  clear H H1 h3 h4 h5 h6
  rcases Int.lt_trichotomy self disp with hsd | hsd | hsd
  · go_enter Try.func17, Try.ntmps17
    go_wp2_with fail
    generalize w.alloc (.cells #[.int .i64 self, .int .i64 n, .int .i64 disp, .int .u32 0, .int .i64 0, .slice none 0 0, .int .u32 0, .int .i64 0, .bool false, .map none, .int .i64 0] 74) = w2 at *
    generalize w.heap.size = p at *
    clear h3' h4' hsd
    go_loopw [36, 9] (fun t s V => ∃ (k : Nat) (a : Option Addr) (c : Nat), k ≤ n ∧ t = .int .i64 (k : Int) ∧ s = .slice a k c ∧ SL V (.own 3 1 (.slice a k c) k (iv (rangeI k)) :: memB p self n disp 0 0 (.slice none 0 0) 0 0 false (.map none) 0 :: L)) (fun t _ _ => n - (intOf t).toNat)
    case atStart => exact ⟨0, none, 0, by omega, rfl, rfl, hH.out⟩
    case round =>
      clear hH
      obtain ⟨k, a, c, hk, rfl, rfl, H⟩ := hrel
      by_cases hkn : k < n
      · have hH := Lib.hid H
        clear H
        go_wp2_with (
          at_builtin
          refine sl_app (hH.out.alloc [.int .i64 k] 3) rfl _ _ _ rfl elemI _ rfl (.there (.here _ _)) [.int .i64 k] rfl rfl (rd_newK _ _ _) (by simp [Value.oneCell']) (by simp only [maxLen]; omega) (by omega) (fun h => by cases h) ?_
          intro v' w3 H3 hnil
          obtain ⟨a', c', rfl, -⟩ := OwnK.slice H3.head
          have H4 := Lib.hid (H3.re (.step (.here _ _) (.drop (.same _))))
          clear H3 hnil)
        go_roundw
        case rel =>
          refine ⟨k + 1, a', c', by omega, by go_num, rfl, ?_⟩
          rw [rangeI_succ, iv_append]
          exact H4.out
        case measure => (simp [intOf]; try omega)
      · obtain rfl : k = n := by omega
        have hne : ¬ (Value.slice a k c = .slice none 0 0 ∧ k = 0 ∧ iv (rangeI k) = []) := by rintro ⟨-, h, -⟩; omega
        obtain ⟨g, cp, hgv, -⟩ := (OwnK.form (show OwnK wr 0 3 1 (.slice a k c) k (iv (rangeI k)) from H.ownOf (.here _ _))).resolve_left hne
        cases hgv
        have had := adopt_c (H.re (L' := memB p self k disp 0 0 (.slice none 0 0) 0 0 false (.map none) 0 :: .own 3 1 (.slice (some ⟨g, 0, none⟩) k c) k (iv (rangeI k)) :: L) (.step (.there (.here _ _)) (.same _))) 0 0 g 0 c (rangeI k) (by rw [rangeI_length]; omega)
          (fun V h => (OwnK.rdI (show OwnK V 0 3 1 _ _ (iv (rangeI k)) from h.ownOf (.here _ _))).2.2)
        rw [rangeI_length] at had
        have had' := Lib.hid had
        clear H had hne hkn
        go_wp2_with fail
        refine had'.out.mono ?_
        rintro e w4 ⟨⟨v, rfl⟩, a', c', b', H4⟩
        have hH4 := Lib.hid H4
        clear had' H4
        go_wp2_with fail
        go_ret2
        refine ⟨p, a', c', b', rfl, ?_⟩
        unfold MEM
        rw [rangeI_length]
        exact hH4.out.re (.step (.here _ _) (.step (.here _ _) (.step (.here _ _) (.drop (.same _)))))
  · subst hsd
    go_enter Try.func17, Try.ntmps17
    go_wp2_with fail
    generalize w.alloc (.cells #[.int .i64 self, .int .i64 n, .int .i64 self, .int .u32 0, .int .i64 0, .slice none 0 0, .int .u32 0, .int .i64 0, .bool false, .map none, .int .i64 0] 74) = w2 at *
    generalize w.heap.size = p at *
    clear h3' h4'
    go_loopw [36, 9] (fun t s V => ∃ (k : Nat) (a : Option Addr) (c : Nat), k ≤ n ∧ t = .int .i64 (k : Int) ∧ s = .slice a k c ∧ SL V (.own 3 1 (.slice a k c) k (iv (rangeI k)) :: memB p self n self 0 0 (.slice none 0 0) 0 0 false (.map none) 0 :: L)) (fun t _ _ => n - (intOf t).toNat)
    case atStart => exact ⟨0, none, 0, by omega, rfl, rfl, hH.out⟩
    case round =>
      clear hH
      obtain ⟨k, a, c, hk, rfl, rfl, H⟩ := hrel
      by_cases hkn : k < n
      · have hH := Lib.hid H
        clear H
        go_wp2_with (
          at_builtin
          refine sl_app (hH.out.alloc [.int .i64 k] 3) rfl _ _ _ rfl elemI _ rfl (.there (.here _ _)) [.int .i64 k] rfl rfl (rd_newK _ _ _) (by simp [Value.oneCell']) (by simp only [maxLen]; omega) (by omega) (fun h => by cases h) ?_
          intro v' w3 H3 hnil
          obtain ⟨a', c', rfl, -⟩ := OwnK.slice H3.head
          have H4 := Lib.hid (H3.re (.step (.here _ _) (.drop (.same _))))
          clear H3 hnil)
        go_roundw
        case rel =>
          refine ⟨k + 1, a', c', by omega, by go_num, rfl, ?_⟩
          rw [rangeI_succ, iv_append]
          exact H4.out
        case measure => (simp [intOf]; try omega)
      · obtain rfl : k = n := by omega
        have hne : ¬ (Value.slice a k c = .slice none 0 0 ∧ k = 0 ∧ iv (rangeI k) = []) := by rintro ⟨-, h, -⟩; omega
        obtain ⟨g, cp, hgv, -⟩ := (OwnK.form (show OwnK wr 0 3 1 (.slice a k c) k (iv (rangeI k)) from H.ownOf (.here _ _))).resolve_left hne
        cases hgv
        have had := adopt_c (H.re (L' := memB p self k self 0 0 (.slice none 0 0) 0 0 false (.map none) 0 :: .own 3 1 (.slice (some ⟨g, 0, none⟩) k c) k (iv (rangeI k)) :: L) (.step (.there (.here _ _)) (.same _))) 0 0 g 0 c (rangeI k) (by rw [rangeI_length]; omega)
          (fun V h => (OwnK.rdI (show OwnK V 0 3 1 _ _ (iv (rangeI k)) from h.ownOf (.here _ _))).2.2)
        rw [rangeI_length] at had
        have had' := Lib.hid had
        clear H had hne hkn
        go_wp2_with fail
        refine had'.out.mono ?_
        rintro e w4 ⟨⟨v, rfl⟩, a', c', b', H4⟩
        have hH4 := Lib.hid H4
        clear had' H4
        go_wp2_with fail
        go_ret2
        refine ⟨p, a', c', b', rfl, ?_⟩
        unfold MEM
        rw [rangeI_length]
        exact hH4.out.re (.step (.here _ _) (.step (.here _ _) (.step (.here _ _) (.drop (.same _)))))
  · go_enter Try.func17, Try.ntmps17
    go_wp2_with fail
    generalize w.alloc (.cells #[.int .i64 self, .int .i64 n, .int .i64 disp, .int .u32 0, .int .i64 0, .slice none 0 0, .int .u32 0, .int .i64 0, .bool false, .map none, .int .i64 0] 74) = w2 at *
    generalize w.heap.size = p at *
    clear h3' h4' hsd
    go_loopw [36, 9] (fun t s V => ∃ (k : Nat) (a : Option Addr) (c : Nat), k ≤ n ∧ t = .int .i64 (k : Int) ∧ s = .slice a k c ∧ SL V (.own 3 1 (.slice a k c) k (iv (rangeI k)) :: memB p self n disp 0 0 (.slice none 0 0) 0 0 false (.map none) 0 :: L)) (fun t _ _ => n - (intOf t).toNat)
    case atStart => exact ⟨0, none, 0, by omega, rfl, rfl, hH.out⟩
    case round =>
      clear hH
      obtain ⟨k, a, c, hk, rfl, rfl, H⟩ := hrel
      by_cases hkn : k < n
      · have hH := Lib.hid H
        clear H
        go_wp2_with (
          at_builtin
          refine sl_app (hH.out.alloc [.int .i64 k] 3) rfl _ _ _ rfl elemI _ rfl (.there (.here _ _)) [.int .i64 k] rfl rfl (rd_newK _ _ _) (by simp [Value.oneCell']) (by simp only [maxLen]; omega) (by omega) (fun h => by cases h) ?_
          intro v' w3 H3 hnil
          obtain ⟨a', c', rfl, -⟩ := OwnK.slice H3.head
          have H4 := Lib.hid (H3.re (.step (.here _ _) (.drop (.same _))))
          clear H3 hnil)
        go_roundw
        case rel =>
          refine ⟨k + 1, a', c', by omega, by go_num, rfl, ?_⟩
          rw [rangeI_succ, iv_append]
          exact H4.out
        case measure => (simp [intOf]; try omega)
      · obtain rfl : k = n := by omega
        have hne : ¬ (Value.slice a k c = .slice none 0 0 ∧ k = 0 ∧ iv (rangeI k) = []) := by rintro ⟨-, h, -⟩; omega
        obtain ⟨g, cp, hgv, -⟩ := (OwnK.form (show OwnK wr 0 3 1 (.slice a k c) k (iv (rangeI k)) from H.ownOf (.here _ _))).resolve_left hne
        cases hgv
        have had := adopt_c (H.re (L' := memB p self k disp 0 0 (.slice none 0 0) 0 0 false (.map none) 0 :: .own 3 1 (.slice (some ⟨g, 0, none⟩) k c) k (iv (rangeI k)) :: L) (.step (.there (.here _ _)) (.same _))) 0 0 g 0 c (rangeI k) (by rw [rangeI_length]; omega)
          (fun V h => (OwnK.rdI (show OwnK V 0 3 1 _ _ (iv (rangeI k)) from h.ownOf (.here _ _))).2.2)
        rw [rangeI_length] at had
        have had' := Lib.hid had
        clear H had hne hkn
        go_wp2_with fail
        refine had'.out.mono ?_
        rintro e w4 ⟨⟨v, rfl⟩, a', c', b', H4⟩
        have hH4 := Lib.hid H4
        clear had' H4
        go_wp2_with fail
        go_ret2
        refine ⟨p, a', c', b', rfl, ?_⟩
        unfold MEM
        rw [rangeI_length]
        exact hH4.out.re (.step (.here _ _) (.step (.here _ _) (.step (.here _ _) (.drop (.same _)))))
end Go.Proofs.Ytaibdcglhibglaa
