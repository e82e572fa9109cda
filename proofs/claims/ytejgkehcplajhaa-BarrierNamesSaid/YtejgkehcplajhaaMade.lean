/- The walk of made: a barrier of some of six nodes. -/
import Derived.Test.YtejgkehcplajhaaAlive
namespace Go.Proofs.Ytejgkehcplajhaa
open Go.RowKit
set_option linter.unusedVariables false

theorem getD_app {l k : List Int} {i : Nat} (h : i < l.length) : (l ++ k).getD i 0 = l.getD i 0 := by
  rw [List.getD_eq_getElem?_getD, List.getD_eq_getElem?_getD, List.getElem?_append_left h]
theorem getD_end {l : List Int} {x : Int} : (l ++ [x]).getD l.length 0 = x := by
  rw [List.getD_eq_getElem?_getD, List.getElem?_append_right (Nat.le_refl _)]; simp

def bitB (set : Int) (n : Nat) : Bool := n == 0 || decide (set / 2 ^ n % 2 = 1)
/-- The members among the first k nodes. -/
def membK (set : Int) (k : Nat) : List Int := ((List.range k).filter (bitB set)).map fun n : Nat => (n : Int)
def memb (set : Int) : List Int := membK set 6
theorem membK_succ (set : Int) (k : Nat) : membK set (k + 1) = membK set k ++ if bitB set k then [(k : Int)] else [] := by
  unfold membK
  rw [List.range_succ, List.filter_append, List.map_append]
  cases h : bitB set k <;> simp [h]
theorem membK_len (set : Int) (k : Nat) : (membK set k).length ≤ k := by
  unfold membK
  have := List.length_filter_le (bitB set) (List.range k)
  simp at this ⊢; omega

theorem membK_good (set : Int) : ∀ k, k ≤ 6 → (∀ j, j < (membK set k).length → okAt (membK set k) j) ∧ ∀ x ∈ membK set k, 0 ≤ x ∧ x < k
  | 0, _ => ⟨by simp [membK], by simp [membK]⟩
  | k + 1, hk => by
    obtain ⟨h1, h2⟩ := membK_good set k (by omega)
    rw [membK_succ]
    cases hb : bitB set k
    · simp only [Bool.false_eq_true, if_false, List.append_nil]
      exact ⟨h1, fun x hx => by have := h2 x hx; omega⟩
    · simp only [if_true]
      refine ⟨fun j hj => ?_, fun x hx => ?_⟩
      · have hp : ∀ i, i ≤ (membK set k).length → prevI (membK set k ++ [(k : Int)]) i = prevI (membK set k) i := by
          intro i hi
          unfold prevI
          by_cases h0 : i = 0
          · simp [h0]
          · rw [if_neg h0, if_neg h0, getD_app (by omega)]
        rw [List.length_append, List.length_singleton] at hj
        by_cases e : j < (membK set k).length
        · have h3 := h1 j e
          unfold okAt at h3 ⊢
          rw [hp j (by omega), getD_app e]
          exact h3
        · have e2 : j = (membK set k).length := by omega
          unfold okAt
          rw [hp j (by omega), e2, getD_end]
          refine ⟨?_, by omega⟩
          unfold prevI
          split
          · omega
          · rename_i h0
            have hl : (membK set k).length - 1 < (membK set k).length := by omega
            rw [List.getD_eq_getElem?_getD, List.getElem?_eq_getElem hl]
            exact (h2 _ (List.getElem_mem hl)).2
      · rcases List.mem_append.1 hx with hx | hx
        · have := h2 x hx; omega
        · simp at hx; omega
theorem memb_zero (set : Int) : (0 : Int) ∈ memb set := by
  unfold memb membK
  rw [List.mem_map]
  exact ⟨0, by simp [bitB], rfl⟩
theorem memb_good (set fr : Int) (h0 : 0 ≤ fr) (h1 : fr < 12) : Good (memb set) fr 12 :=
  ⟨(membK_good set 6 (by omega)).1, List.ne_nil_of_mem (memb_zero set), by omega, by omega, h0, by omega⟩
theorem memb_len (set : Int) : 1 ≤ (memb set).length ∧ (memb set).length ≤ 6 :=
  ⟨List.length_pos_of_mem (memb_zero set), membK_len set 6⟩
theorem memb_lt (set : Int) : ∀ x ∈ memb set, 0 ≤ x ∧ x < 6 := (membK_good set 6 (by omega)).2

theorem bit8 (x : Int) (h0 : 0 ≤ x) (h1 : x ≤ 255) : bits .and .u8 x 1 = x % 2 := by
  show IntKind.u8.wrap ((BitVec.ofInt 8 x &&& BitVec.ofInt 8 1).toNat : Int) = _
  have e : (BitVec.ofInt 8 x &&& BitVec.ofInt 8 1).toNat = x.toNat % 2 := by
    rw [BitVec.toNat_and, BitVec.toNat_ofInt, BitVec.toNat_ofInt]
    have e1 : (x % ((2 ^ 8 : Nat) : Int)).toNat = x.toNat := by congr 1; omega
    rw [e1, show ((1 : Int) % ((2 ^ 8 : Nat) : Int)).toNat = 1 from by decide, Nat.and_one_is_mod]
  rw [e, IntKind.wrap_u8]
  omega

set_option maxHeartbeats 2000000 in
theorem made_c (set fr : Int) (s0 : 0 ≤ set) (s1 : set ≤ 255) (f0 : 0 ≤ fr) (f1 : fr ≤ 255) (w : World) {L : List Pc} (H : SL w L) :
    Calls Try.prog 11 #[.int .u8 set, .int .u8 fr] w fun e w' => ∃ p m a c a' c', e = .returned (.tuple #[.pointer (some ⟨p, 0, none⟩), .slice a' (memb set).length c']) ∧
      SL w' (BAR p m a c (memb set) (fr % 12) (fr % 12) 12 (fun _ => false) (.own 3 1 (.slice a' (memb set).length c') (memb set).length (iv (memb set)) :: L)) := by
  have hH := Lib.hid H
  clear H
  go_enter Try.func11, Try.ntmps11
  go_wp2_with fail
  go_loopw [6, 7] (fun l i V => ∃ (k : Nat) (a : Option Addr) (c : Nat), k ≤ 6 ∧ i = .int .i64 k ∧ l = .slice a (membK set k).length c ∧ SL V (.own 3 1 (.slice a (membK set k).length c) (membK set k).length (iv (membK set k)) :: L)) (fun _ i _ => 6 - (intOf i).toNat)
  case atStart => exact ⟨0, none, 0, by omega, rfl, by simp [membK], hH.out.pure (q := .own 3 1 (.slice none 0 0) 0 []) (OwnK.nil _ _ _ _) (fun b h => by cases h)⟩
  case round =>
    obtain ⟨k, a, c, hk, rfl, rfl, H⟩ := hrel
    have hle := membK_len set k
    by_cases hk6 : k < 6
    · have hs := Lib.hid (membK_succ set k)
      have hX' : ∃ X, membK set k = X := ⟨_, rfl⟩
      obtain ⟨X, hX⟩ := hX'
      rw [hX] at H hle hs ⊢
      have hH2 := Lib.hid H
      clear H hX hH
      have step : ∀ b : Bool, bitB set k = b → True := fun _ _ => trivial
      have hb : ∀ q : Int, set / 2 ^ k = q → bits .and .u8 q 1 = q % 2 ∧ (k = 0 ∨ (k ≠ 0 ∧ bitB set k = decide (q % 2 = 1))) := by
        intro q hq
        have hq0 : 0 ≤ q := by rw [← hq]; exact Int.ediv_nonneg s0 (Int.pow_nonneg (by decide))
        have hq1 : q ≤ 255 := by
          rw [← hq]
          refine Int.le_trans (Int.ediv_le_self _ s0) s1
        refine ⟨bit8 q hq0 hq1, ?_⟩
        by_cases h : k = 0
        · exact .inl h
        · refine .inr ⟨h, ?_⟩
          unfold bitB
          rw [hq, show (k == 0) = false by simpa using h, Bool.false_or]
      have hkc : k = 0 ∨ k = 1 ∨ k = 2 ∨ k = 3 ∨ k = 4 ∨ k = 5 := by omega
      have app : ∀ (V : World), SL V (.own 3 1 (.slice a X.length c) X.length (iv X) :: L) → True := fun _ _ => trivial
      rcases hkc with rfl | rfl | rfl | rfl | rfl | rfl
      · have hb0 : bitB set 0 = true := rfl
        rw [hb0] at hs
        clear hb step app
        go_wp2_with (
          at_builtin
          refine sl_app (hH2.out.alloc [.int .i64 0] 3) rfl _ _ _ rfl elemI _ rfl (.there (.here _ _)) [.int .i64 0] rfl rfl (rd_newK _ _ _) (by simp [Value.oneCell']) (by simp only [maxLen]; omega) (by omega) (fun h => by cases h) ?_
          intro v' w3 H3 hnil
          obtain ⟨a', c', rfl, -⟩ := OwnK.slice H3.head
          have H4 := Lib.hid (H3.re (.step (.here _ _) (.drop (.same _))))
          clear H3 hnil)
        go_roundw
        case rel =>
          refine ⟨0 + 1, a', c', by omega, by go_num, ?_, ?_⟩
          · rw [hs.out]; simp
          · rw [hs.out]; simp only [if_true, List.length_append, List.length_singleton, iv_append]; exact H4.out
        case measure => (simp [intOf]; try omega)
      · obtain ⟨q, hq⟩ : ∃ q, set / 2 ^ 1 = q := ⟨_, rfl⟩
        obtain ⟨hb1, hb2 | ⟨-, hb2⟩⟩ := hb q hq
        · exact absurd hb2 (by decide)
        · have hq2 : set / 2 = q := hq
          rw [hb2] at hs
          by_cases hqq : q % 2 = 1
          · rw [show decide (q % 2 = 1) = true by simpa using hqq] at hs
            clear hb step app hb2 hq
            go_wp2_with (
              at_builtin
              refine sl_app (hH2.out.alloc [.int .i64 1] 3) rfl _ _ _ rfl elemI _ rfl (.there (.here _ _)) [.int .i64 1] rfl rfl (rd_newK _ _ _) (by simp [Value.oneCell']) (by simp only [maxLen]; omega) (by omega) (fun h => by cases h) ?_
              intro v' w3 H3 hnil
              obtain ⟨a', c', rfl, -⟩ := OwnK.slice H3.head
              have H4 := Lib.hid (H3.re (.step (.here _ _) (.drop (.same _))))
              clear H3 hnil)
            go_roundw
            case rel =>
              refine ⟨1 + 1, a', c', by omega, by go_num, ?_, ?_⟩
              · rw [hs.out]; simp
              · rw [hs.out]; simp only [if_true, List.length_append, List.length_singleton, iv_append]; exact H4.out
            case measure => (simp [intOf]; try omega)
          · rw [show decide (q % 2 = 1) = false by simpa using hqq] at hs
            have hqb : (q % 2 == 1) = false := by simpa using hqq
            clear hb step app hb2 hq
            go_wp2_with fail
            go_roundw
            case rel =>
              refine ⟨1 + 1, a, c, by omega, by go_num, ?_, ?_⟩
              · rw [hs.out]; simp
              · rw [hs.out]; simp only [Bool.false_eq_true, if_false, List.append_nil]; exact hH2.out
            case measure => (simp [intOf]; try omega)
      · obtain ⟨q, hq⟩ : ∃ q, set / 2 ^ 2 = q := ⟨_, rfl⟩
        obtain ⟨hb1, hb2 | ⟨-, hb2⟩⟩ := hb q hq
        · exact absurd hb2 (by decide)
        · have hq2 : set / 4 = q := hq
          rw [hb2] at hs
          by_cases hqq : q % 2 = 1
          · rw [show decide (q % 2 = 1) = true by simpa using hqq] at hs
            clear hb step app hb2 hq
            go_wp2_with (
              at_builtin
              refine sl_app (hH2.out.alloc [.int .i64 2] 3) rfl _ _ _ rfl elemI _ rfl (.there (.here _ _)) [.int .i64 2] rfl rfl (rd_newK _ _ _) (by simp [Value.oneCell']) (by simp only [maxLen]; omega) (by omega) (fun h => by cases h) ?_
              intro v' w3 H3 hnil
              obtain ⟨a', c', rfl, -⟩ := OwnK.slice H3.head
              have H4 := Lib.hid (H3.re (.step (.here _ _) (.drop (.same _))))
              clear H3 hnil)
            go_roundw
            case rel =>
              refine ⟨2 + 1, a', c', by omega, by go_num, ?_, ?_⟩
              · rw [hs.out]; simp
              · rw [hs.out]; simp only [if_true, List.length_append, List.length_singleton, iv_append]; exact H4.out
            case measure => (simp [intOf]; try omega)
          · rw [show decide (q % 2 = 1) = false by simpa using hqq] at hs
            have hqb : (q % 2 == 1) = false := by simpa using hqq
            clear hb step app hb2 hq
            go_wp2_with fail
            go_roundw
            case rel =>
              refine ⟨2 + 1, a, c, by omega, by go_num, ?_, ?_⟩
              · rw [hs.out]; simp
              · rw [hs.out]; simp only [Bool.false_eq_true, if_false, List.append_nil]; exact hH2.out
            case measure => (simp [intOf]; try omega)
      · obtain ⟨q, hq⟩ : ∃ q, set / 2 ^ 3 = q := ⟨_, rfl⟩
        obtain ⟨hb1, hb2 | ⟨-, hb2⟩⟩ := hb q hq
        · exact absurd hb2 (by decide)
        · have hq2 : set / 8 = q := hq
          rw [hb2] at hs
          by_cases hqq : q % 2 = 1
          · rw [show decide (q % 2 = 1) = true by simpa using hqq] at hs
            clear hb step app hb2 hq
            go_wp2_with (
              at_builtin
              refine sl_app (hH2.out.alloc [.int .i64 3] 3) rfl _ _ _ rfl elemI _ rfl (.there (.here _ _)) [.int .i64 3] rfl rfl (rd_newK _ _ _) (by simp [Value.oneCell']) (by simp only [maxLen]; omega) (by omega) (fun h => by cases h) ?_
              intro v' w3 H3 hnil
              obtain ⟨a', c', rfl, -⟩ := OwnK.slice H3.head
              have H4 := Lib.hid (H3.re (.step (.here _ _) (.drop (.same _))))
              clear H3 hnil)
            go_roundw
            case rel =>
              refine ⟨3 + 1, a', c', by omega, by go_num, ?_, ?_⟩
              · rw [hs.out]; simp
              · rw [hs.out]; simp only [if_true, List.length_append, List.length_singleton, iv_append]; exact H4.out
            case measure => (simp [intOf]; try omega)
          · rw [show decide (q % 2 = 1) = false by simpa using hqq] at hs
            have hqb : (q % 2 == 1) = false := by simpa using hqq
            clear hb step app hb2 hq
            go_wp2_with fail
            go_roundw
            case rel =>
              refine ⟨3 + 1, a, c, by omega, by go_num, ?_, ?_⟩
              · rw [hs.out]; simp
              · rw [hs.out]; simp only [Bool.false_eq_true, if_false, List.append_nil]; exact hH2.out
            case measure => (simp [intOf]; try omega)
      · obtain ⟨q, hq⟩ : ∃ q, set / 2 ^ 4 = q := ⟨_, rfl⟩
        obtain ⟨hb1, hb2 | ⟨-, hb2⟩⟩ := hb q hq
        · exact absurd hb2 (by decide)
        · have hq2 : set / 16 = q := hq
          rw [hb2] at hs
          by_cases hqq : q % 2 = 1
          · rw [show decide (q % 2 = 1) = true by simpa using hqq] at hs
            clear hb step app hb2 hq
            go_wp2_with (
              at_builtin
              refine sl_app (hH2.out.alloc [.int .i64 4] 3) rfl _ _ _ rfl elemI _ rfl (.there (.here _ _)) [.int .i64 4] rfl rfl (rd_newK _ _ _) (by simp [Value.oneCell']) (by simp only [maxLen]; omega) (by omega) (fun h => by cases h) ?_
              intro v' w3 H3 hnil
              obtain ⟨a', c', rfl, -⟩ := OwnK.slice H3.head
              have H4 := Lib.hid (H3.re (.step (.here _ _) (.drop (.same _))))
              clear H3 hnil)
            go_roundw
            case rel =>
              refine ⟨4 + 1, a', c', by omega, by go_num, ?_, ?_⟩
              · rw [hs.out]; simp
              · rw [hs.out]; simp only [if_true, List.length_append, List.length_singleton, iv_append]; exact H4.out
            case measure => (simp [intOf]; try omega)
          · rw [show decide (q % 2 = 1) = false by simpa using hqq] at hs
            have hqb : (q % 2 == 1) = false := by simpa using hqq
            clear hb step app hb2 hq
            go_wp2_with fail
            go_roundw
            case rel =>
              refine ⟨4 + 1, a, c, by omega, by go_num, ?_, ?_⟩
              · rw [hs.out]; simp
              · rw [hs.out]; simp only [Bool.false_eq_true, if_false, List.append_nil]; exact hH2.out
            case measure => (simp [intOf]; try omega)
      · obtain ⟨q, hq⟩ : ∃ q, set / 2 ^ 5 = q := ⟨_, rfl⟩
        obtain ⟨hb1, hb2 | ⟨-, hb2⟩⟩ := hb q hq
        · exact absurd hb2 (by decide)
        · have hq2 : set / 32 = q := hq
          rw [hb2] at hs
          by_cases hqq : q % 2 = 1
          · rw [show decide (q % 2 = 1) = true by simpa using hqq] at hs
            clear hb step app hb2 hq
            go_wp2_with (
              at_builtin
              refine sl_app (hH2.out.alloc [.int .i64 5] 3) rfl _ _ _ rfl elemI _ rfl (.there (.here _ _)) [.int .i64 5] rfl rfl (rd_newK _ _ _) (by simp [Value.oneCell']) (by simp only [maxLen]; omega) (by omega) (fun h => by cases h) ?_
              intro v' w3 H3 hnil
              obtain ⟨a', c', rfl, -⟩ := OwnK.slice H3.head
              have H4 := Lib.hid (H3.re (.step (.here _ _) (.drop (.same _))))
              clear H3 hnil)
            go_roundw
            case rel =>
              refine ⟨5 + 1, a', c', by omega, by go_num, ?_, ?_⟩
              · rw [hs.out]; simp
              · rw [hs.out]; simp only [if_true, List.length_append, List.length_singleton, iv_append]; exact H4.out
            case measure => (simp [intOf]; try omega)
          · rw [show decide (q % 2 = 1) = false by simpa using hqq] at hs
            have hqb : (q % 2 == 1) = false := by simpa using hqq
            clear hb step app hb2 hq
            go_wp2_with fail
            go_roundw
            case rel =>
              refine ⟨5 + 1, a, c, by omega, by go_num, ?_, ?_⟩
              · rw [hs.out]; simp
              · rw [hs.out]; simp only [Bool.false_eq_true, if_false, List.append_nil]; exact hH2.out
            case measure => (simp [intOf]; try omega)
    · obtain rfl : k = 6 := by omega
      have hg := Lib.hid (memb_good set (fr % 12) (by omega) (by omega))
      obtain ⟨l1, l2⟩ := memb_len set
      have hrd := (OwnK.rdI (H.ownOf (.here _ _))).2.2
      have hn := Lib.hid (new_c (memb set) (fr % 12) 12 a c wr H (by omega) hrd)
      have hme : Hid (membK set 6 = memb set) := Lib.hid rfl
      rw [hme.out]
      have hH2 := Lib.hid H
      clear H hrd hle
      generalize hX : memb set = X at *
      have hX' := Lib.hid hX
      clear hX hme
      go_wp2_with fail
      refine hn.out.mono ?_
      rintro e V (⟨hb, -⟩ | ⟨-, p, m, a2, c2, rfl, H3⟩)
      · exact absurd hg.out hb
      · have H3' := Lib.hid H3
        clear H3 hn hH2
        go_wp2_with fail
        go_ret2
        have h := H3'.out
        rw [show membK set 6 = X from hX'.out] at h
        rw [hX'.out]
        exact ⟨p, m, a2, c2, a, c, rfl, h⟩
end Go.Proofs.Ytejgkehcplajhaa
