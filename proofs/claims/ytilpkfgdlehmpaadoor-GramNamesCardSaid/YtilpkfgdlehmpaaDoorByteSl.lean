/- Slices of bytes: what they read as; the walk of slices.Clone. -/
import Derived.Test.YtilpkfgdlehmpaaDoorSL
import Derived.Test.YtilpkfgdlehmpaaDoorProg
import Derived.Lib.SliceRun
import Derived.Deep.QuietTactic
import Derived.BigQuiet
namespace Go.Proofs.YtilpkfgdlehmpaaDoor
open Go.RowKit
set_option linter.unusedVariables false

def bv (l : List Int) : List Value := l.map (Value.int .u8)
theorem bv_length (l : List Int) : (bv l).length = l.length := by simp [bv]
theorem bv_append (l k : List Int) : bv (l ++ k) = bv l ++ bv k := by simp [bv]
theorem bv_one (l : List Int) : ∀ u ∈ bv l, u.oneCell' = true := by
  intro u hu
  obtain ⟨c, _, rfl⟩ := List.mem_map.1 hu
  rfl
/-- The slice reads as the bytes l. -/
def RdB (w : World) (a : Option Addr) (l : List Int) : Prop := Rd w a l.length fun i => .int .u8 (l.getD i 0)
theorem RdB.rd {w : World} {a : Option Addr} {l : List Int} (h : RdB w a l) : Rd w a (bv l).length (fun i => (bv l).getD i undef) := by
  rw [bv_length]
  exact Rd.congr h fun i hi => by simp [bv, List.getD_eq_getElem?_getD, List.getElem?_eq_getElem hi]
theorem RdB.of_rd {w : World} {a : Option Addr} {l : List Int} (h : Rd w a (bv l).length (fun i => (bv l).getD i undef)) : RdB w a l := by
  rw [bv_length] at h
  exact Rd.congr h fun i hi => by simp [bv, List.getD_eq_getElem?_getD, List.getElem?_eq_getElem hi]
theorem RdB.cell {w : World} {a : Option Addr} {l : List Int} (h : RdB w a l) {i : Nat} (hi : i < l.length) : ∃ b o, a = some ⟨b, o, none⟩ ∧ w.cell? ⟨b, o + i, none⟩ = some (.int .u8 (l[i]'hi)) := by
  obtain ⟨b, o, h1, h2⟩ := h i hi
  exact ⟨b, o, h1, by rw [h2]; simp [hi]⟩
theorem OwnK.rdB {w : World} {base : Nat} {e : TypeId} {a : Option Addr} {m cap n : Nat} {l : List Int} (h : OwnK w base e 1 (.slice a m cap) n (bv l)) : m = n ∧ n = l.length ∧ RdB w a l := by
  have h1 := h.1
  obtain ⟨h2, h3, h4⟩ := h.rd
  rw [bv_length, Nat.mul_one] at h1
  refine ⟨h2, h1.symm, RdB.of_rd ?_⟩
  rw [bv_length, h1]
  simpa using h3

theorem elemB : ElemK Tryd.prog 23 5 1 (.int .u8 0) 1 := ⟨by kernel_rfl, by kernel_rfl, rfl, by decide⟩

theorem clone_c (l : List Int) (a : Option Addr) (c : Nat) (w : World) {L : List Pc} (H : SL w L) (hl : l.length ≤ 1000000) (hr : RdB w a l) (hn : a = none → c = 0) :
    Calls Tryd.prog 54 #[.slice a l.length c] w fun e w' => ∃ a' c', e = .returned (.slice a' l.length c') ∧ SL w' (.own 5 1 (.slice a' l.length c') l.length (bv l) :: L) := by
  obtain ⟨n, hn'⟩ : ∃ n, l.length = n := ⟨_, rfl⟩
  have hn2 := Lib.hid hn'
  have hr' := Lib.hid hr
  have h0 : a = none → n = 0 := by
    intro h; subst h
    by_cases h0 : n = 0
    · exact h0
    · obtain ⟨b, o, h1, _⟩ := hr 0 (by omega); cases h1
  rw [hn'] at hl ⊢
  clear hn' hr
  have hq := fun (w : World) (a : Option Addr) (n c : Nat) => Lib.run_eql_slice_nil (P := Tryd.prog) w 23 5 a n c 0 0 Tryd.underlying23
  cases a with
  | none =>
    obtain rfl := hn rfl
    obtain rfl := h0 rfl
    obtain rfl : l = [] := List.eq_nil_of_length_eq_zero hn2.out
    have H' := Lib.hid H
    clear H hr' hn2
    go_enter Tryd.func54, Tryd.ntmps54
    go_wp2_with fail
    go_ret
    exact ⟨none, 0, rfl, H'.out.pure (OwnK.nil _ _ _ _) fun b hb => by cases hb⟩
  | some x =>
  obtain ⟨b, o, sp⟩ := x
  clear hn h0
  go_enter Tryd.func54, Tryd.ntmps54
  go_wp2_with (
    at_builtin
    have K0 := (Kp.refl no w).alloc (.cells #[] 5)
    have H1 := (H.new (q := .own 5 1 (.slice (some ⟨w.heap.size, 0, none⟩) 0 0) 0 []) K0 ⟨rfl, .inr ⟨_, 0, #[], rfl, Nat.zero_le _, blk_new w _, Nat.le_refl _, Nat.zero_le _, rfl, rfl⟩⟩ (fun x hx => Nat.le_of_eq (Option.some.inj hx)))
    have R1 := hr'.out.rd.no K0
    refine sl_app H1 rfl _ _ _ rfl elemB _ rfl (.here _ _) (bv l) rfl (by rw [bv_length]; exact (by rw [hn2.out, Nat.mul_one])) R1 (bv_one l) (by simp only [maxLen]; omega) (by omega) (fun h => by cases h) ?_
    intro v' w3 H3 hnil
    clear K0 H1 R1)
  have hv := OwnK.slice H3.head
  obtain ⟨a', c', rfl, -⟩ := hv
  rw [Nat.zero_add] at H3
  have H3' := Lib.hid H3
  go_wp2_with fail
  go_ret
  exact ⟨a', c', by simp, by simpa using H3'.out⟩
end Go.Proofs.YtilpkfgdlehmpaaDoor
