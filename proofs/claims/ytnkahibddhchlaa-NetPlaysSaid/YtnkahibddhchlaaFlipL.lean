/- Bits that are turned. -/
import Derived.Test.YtnkahibddhchlaaOpenN
import Derived.Test.YtnkahibddhchlaaBv
namespace Go.Proofs.Ytnkahibddhchlaa
open Go.RowKit
set_option linter.unusedVariables false

theorem byte_U {z : Int} (h : 0 ≤ z ∧ z ≤ 255) : ∃ x : BitVec 8, z = U x := ⟨BitVec.ofInt 8 z, (U_of 8 z h.1 (by omega)).symm⟩
theorem wrap8_U (z : Int) : ∃ x : BitVec 8, IntKind.u8.wrap z = U x := byte_U (by rw [IntKind.wrap_u8]; omega)
theorem xor_zero8 {z : Int} (h : 0 ≤ z ∧ z ≤ 255) : bits .xor .u8 z 0 = z := by
  obtain ⟨x, rfl⟩ := byte_U h
  rw [show (0 : Int) = U (0#8) from rfl, xor8]
  simp
theorem turn_range (z : Int) (r : Nat) (h : 0 ≤ z ∧ z ≤ 255) : 0 ≤ turn z r ∧ turn z r ≤ 255 := by
  obtain ⟨x, rfl⟩ := byte_U h
  obtain ⟨y, hy⟩ := wrap8_U (2 ^ r)
  unfold turn
  rw [hy, xor8]
  exact ⟨U_nn _, U_lt8 _⟩
theorem turn_turn (z : Int) (r : Nat) (h : 0 ≤ z ∧ z ≤ 255) : turn (turn z r) r = z := by
  obtain ⟨x, rfl⟩ := byte_U h
  obtain ⟨y, hy⟩ := wrap8_U (2 ^ r)
  unfold turn
  rw [hy, xor8, xor8, BitVec.xor_assoc, BitVec.xor_self, BitVec.xor_zero]

theorem By.getD {l : List Int} (h : By l) (i : Nat) : 0 ≤ l.getD i 0 ∧ l.getD i 0 ≤ 255 := by
  rw [List.getD_eq_getElem?_getD]
  cases e : l[i]? with
  | none => simp
  | some z => exact h z (List.mem_of_getElem? e)
theorem flipB_length (bs : List Int) (bit : Int) : (flipB bs bit).length = bs.length := by simp [flipB]
theorem flipB_By {bs : List Int} (h : By bs) (bit : Int) : By (flipB bs bit) := by
  intro z hz
  rcases List.mem_or_eq_of_mem_set hz with h' | rfl
  · exact h z h'
  · exact turn_range _ _ (h.getD _)
theorem flipB_at {bs : List Int} {bit : Int} {m : Nat} (hm : m < bs.length) : (flipB bs bit).getD m 0 = if m = (bit / 8).toNat then turn (bs.getD m 0) (bit % 8).toNat else bs.getD m 0 := by
  unfold flipB
  rw [List.getD_eq_getElem?_getD, List.getElem?_set]
  by_cases e : (bit / 8).toNat = m
  · subst e
    simp [hm]
  · rw [if_neg e, if_neg (fun h => e h.symm), List.getD_eq_getElem?_getD]
theorem flipB_flipB {bs : List Int} (h : By bs) (bit : Int) : flipB (flipB bs bit) bit = bs := by
  apply List.ext_getElem (by simp [flipB_length])
  intro m h1 h2
  have e1 := flipB_at (bs := flipB bs bit) (bit := bit) (m := m) (by rw [flipB_length]; exact h2)
  have e2 := flipB_at (bs := bs) (bit := bit) (m := m) h2
  have e3 : (flipB (flipB bs bit) bit).getD m 0 = (flipB (flipB bs bit) bit)[m] := by simp [List.getD_eq_getElem?_getD, h1]
  have e4 : bs.getD m 0 = bs[m] := by simp [List.getD_eq_getElem?_getD, h2]
  rw [← e3, ← e4, e1]
  split
  · rw [e2, if_pos (by assumption), turn_turn _ _ (h.getD _)]
  · rw [e2, if_neg (by assumption)]

theorem send_two {s : NSt} {r : Nat} (hn : s.n = 2) (hr : s.room = r) (hl : (s.F (0, 1)).length < r) {bs : List Int} (hb : bs.length ≤ 1024) :
    (s.send 0 1 bs).1 = 0 ∧ (s.send 0 1 bs).2 = ⟨2, r, { s.t with sent := s.t.sent + 1 }, upd s.F (0, 1) (s.F (0, 1) ++ [bs])⟩ := by
  obtain ⟨n, room, t, F⟩ := s
  dsimp only at *
  subst hn hr
  have e : NSt.okB ⟨2, room, t, F⟩ 0 1 = true := by simp [NSt.okB]
  unfold NSt.send
  rw [if_pos ⟨e, hb⟩]
  unfold NSt.come comeT comeF
  dsimp only
  rw [if_pos hl, if_pos hl]
  exact ⟨rfl, rfl⟩
theorem send_big (s : NSt) {a b : Int} {bs : List Int} (hb : 1024 < bs.length) : s.send a b bs = (170, s) := by
  unfold NSt.send
  rw [if_neg (by omega)]
theorem upd_self (F : Ky → List (List Int)) (k : Ky) (v : List (List Int)) : upd F k v k = v := by simp [upd]

/-- The first k rows. -/
def rowsK (f : Nat → InB) (k : Nat) : List (List Int) := (List.range k).map fun i => (f i).bs
theorem rowsK_succ (f : Nat → InB) (k : Nat) : rowsK f (k + 1) = rowsK f k ++ [(f k).bs] := by simp [rowsK, List.range_succ]
theorem rowsK_length (f : Nat → InB) (k : Nat) : (rowsK f k).length = k := by simp [rowsK]
theorem rowsK_at (f : Nat → InB) {k i : Nat} (h : i < k) : (rowsK f k).getD i [] = (f i).bs := by simp [rowsK, List.getD_eq_getElem?_getD, h]
theorem rows_flip {s : NSt} {f : Nat → InB} {k kk : Nat} {bit : Int} (hF : s.F (0, 1) = rowsK f k) (hkk : kk < k) {i : Nat} (hi : i < k) :
    (s.flip 0 1 kk bit).has 0 1 (i : Nat) = true ∧ (s.flip 0 1 kk bit).the 0 1 (i : Nat) = if i = kk then flipB (f i).bs bit else (f i).bs := by
  have e1 : (s.flip 0 1 kk bit).F (0, 1) = (rowsK f k).set kk (flipB (f kk).bs bit) := by
    unfold NSt.flip NSt.the
    dsimp only
    rw [upd_self, hF, Int.toNat_natCast, rowsK_at f hkk]
  refine ⟨decide_eq_true (by rw [e1, List.length_set, rowsK_length]; omega), ?_⟩
  unfold NSt.the
  rw [e1, Int.toNat_natCast, List.getD_eq_getElem?_getD, List.getElem?_set]
  by_cases e : kk = i
  · subst e
    rw [if_pos rfl, if_pos (by rw [rowsK_length]; exact hi), if_pos rfl]
    rfl
  · rw [if_neg e, if_neg (fun h => e h.symm), ← List.getD_eq_getElem?_getD]
    exact rowsK_at f hi
theorem flip_the {s : NSt} {a b : Int} {j : Nat} (bit : Int) (h : s.has a b j = true) : (s.flip a b j bit).has a b j = true ∧ (s.flip a b j bit).the a b j = flipB (s.the a b j) bit := by
  have hl : j < (s.F (a, b)).length := by have := of_decide_eq_true h; omega
  have e1 : (s.flip a b j bit).F (a, b) = (s.F (a, b)).set j (flipB (s.the a b j) bit) := by
    unfold NSt.flip
    dsimp only
    rw [upd_self, Int.toNat_natCast]
  refine ⟨decide_eq_true (by rw [e1, List.length_set]; omega), ?_⟩
  conv => lhs; unfold NSt.the
  rw [e1, Int.toNat_natCast, List.getD_eq_getElem?_getD, List.getElem?_set_self hl]
  rfl
theorem rows_plain {s : NSt} {f : Nat → InB} {k : Nat} (hF : s.F (0, 1) = rowsK f k) {i : Nat} (hi : i < k) : s.has 0 1 (i : Nat) = true ∧ s.the 0 1 (i : Nat) = (f i).bs := by
  refine ⟨decide_eq_true (by rw [hF, rowsK_length]; omega), ?_⟩
  unfold NSt.the
  rw [hF, Int.toNat_natCast]
  exact rowsK_at f hi
end Go.Proofs.Ytnkahibddhchlaa
