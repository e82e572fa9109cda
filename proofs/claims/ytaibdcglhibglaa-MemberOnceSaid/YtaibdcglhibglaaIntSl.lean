/- Slices of int: what they read as; the walks of slices.Index, Contains and Clone (turned from w25/Bar1.lean). -/
import Derived.Test.YtaibdcglhibglaaISet
import Derived.Test.YtaibdcglhibglaaProg
import Derived.Lib.SliceRun
import Derived.Deep.QuietTactic
import Derived.BigQuiet
namespace Go.Proofs.Ytaibdcglhibglaa
open Go.RowKit
set_option linter.unusedVariables false

def iv (l : List Int) : List Value := l.map (Value.int .i64)
theorem iv_length (l : List Int) : (iv l).length = l.length := by simp [iv]
theorem iv_append (l k : List Int) : iv (l ++ k) = iv l ++ iv k := by simp [iv]
theorem iv_one (l : List Int) : ∀ u ∈ iv l, u.oneCell' = true := by
  intro u hu
  obtain ⟨c, _, rfl⟩ := List.mem_map.1 hu
  rfl
/-- The slice reads as the numbers l. -/
def RdI (w : World) (a : Option Addr) (l : List Int) : Prop := Rd w a l.length fun i => .int .i64 (l.getD i 0)
theorem RdI.rd {w : World} {a : Option Addr} {l : List Int} (h : RdI w a l) : Rd w a (iv l).length (fun i => (iv l).getD i undef) := by
  rw [iv_length]
  exact Rd.congr h fun i hi => by simp [iv, List.getD_eq_getElem?_getD, List.getElem?_eq_getElem hi]
theorem RdI.of_rd {w : World} {a : Option Addr} {l : List Int} (h : Rd w a (iv l).length (fun i => (iv l).getD i undef)) : RdI w a l := by
  rw [iv_length] at h
  exact Rd.congr h fun i hi => by simp [iv, List.getD_eq_getElem?_getD, List.getElem?_eq_getElem hi]
theorem RdI.cell {w : World} {a : Option Addr} {l : List Int} (h : RdI w a l) {i : Nat} (hi : i < l.length) : ∃ b o, a = some ⟨b, o, none⟩ ∧ w.cell? ⟨b, o + i, none⟩ = some (.int .i64 (l[i]'hi)) := by
  obtain ⟨b, o, h1, h2⟩ := h i hi
  exact ⟨b, o, h1, by rw [h2]; simp [hi]⟩
theorem OwnK.rdI {w : World} {base : Nat} {e : TypeId} {a : Option Addr} {m cap n : Nat} {l : List Int} (h : OwnK w base e 1 (.slice a m cap) n (iv l)) : m = n ∧ n = l.length ∧ RdI w a l := by
  have h1 := h.1
  obtain ⟨h2, h3, h4⟩ := h.rd
  rw [iv_length, Nat.mul_one] at h1
  refine ⟨h2, h1.symm, RdI.of_rd ?_⟩
  rw [iv_length, h1]
  simpa using h3

/-- Where a number stands first; -1: nowhere. -/
def idxI (x : Int) : List Int → Int
  | [] => -1
  | y :: l => if x = y then 0 else (if idxI x l < 0 then -1 else idxI x l + 1)
theorem idxI_no {x : Int} {l : List Int} (h : x ∉ l) : idxI x l = -1 := by
  induction l with
  | nil => rfl
  | cons y l ih =>
    simp only [List.mem_cons, not_or] at h
    simp [idxI, h.1, ih h.2]
theorem idxI_at {x : Int} : ∀ {l : List Int} {i : Nat} (hi : i < l.length), l[i] = x → (∀ j (h : j < i), l[j]'(by omega) ≠ x) → idxI x l = i
  | [], i, hi, _, _ => by simp at hi
  | y :: l, 0, _, h, _ => by simp at h; simp [idxI, h]
  | y :: l, i + 1, hi, h, hn => by
    have h0 := hn 0 (by omega)
    have := idxI_at (x := x) (l := l) (i := i) (by simpa using hi) (by simpa using h) (fun j hj => by have := hn (j + 1) (by omega); simpa using this)
    simp at h0
    simp [idxI, this, Ne.symm h0]
    omega
theorem idxI_nonneg {x : Int} {l : List Int} : (0 ≤ idxI x l) ↔ x ∈ l := by
  induction l with
  | nil => simp [idxI]
  | cons y l ih =>
    by_cases h : x = y
    · simp [idxI, h]
    · simp only [idxI, h, if_false, List.mem_cons, false_or]
      rw [← ih]
      split <;> omega

theorem index_c (x : Int) (l : List Int) (a : Option Addr) (c : Nat) (w : World) (hl : l.length ≤ 9223372036854775807) (hr : RdI w a l) :
    Calls Try.prog 52 #[.slice a l.length c, .int .i64 x] w fun e w' => e = .returned (.int .i64 (idxI x l)) ∧ w = w' := by
  have hr' := Lib.hid hr
  obtain ⟨n, hn⟩ : ∃ n, l.length = n := ⟨_, rfl⟩
  have hn' := Lib.hid hn
  rw [hn] at hl ⊢
  clear hr hn
  go_enter Try.func52, Try.ntmps52
  go_wp2_with fail
  go_loop [8] (fun i => ∃ j : Nat, j ≤ n ∧ i = .int .i64 j ∧ Hid (∀ k (h : k < j) (h' : k < l.length), l[k]'h' ≠ x)) (fun i => n - (intOf i).toNat)
  case atStart => exact ⟨0, by omega, rfl, Lib.hid (by intro k h; omega)⟩
  case round =>
    obtain ⟨j, hj, rfl, hno⟩ := hrel
    by_cases hjn : j < n
    · have hjl : j < l.length := by rw [hn'.out]; exact hjn
      obtain ⟨b, o, rfl, hc⟩ := hr'.out.cell hjl
      by_cases hx : x = l[j]'hjl
      · have hfin := Lib.hid (show idxI x l = j from idxI_at hjl hx.symm fun k hk => hno.out k hk (by omega))
        have hxb : (x == l[j]'hjl) = true := by simpa using hx
        clear hx
        generalize l[j]'hjl = y at *
        go_wp2_with fail
        go_ret
        exact ⟨by rw [hfin.out]; rfl, rfl⟩
      · have hno' := Lib.hid (show ∀ k (h : k < j + 1) (h' : k < l.length), l[k]'h' ≠ x from fun k hk h' => by
          by_cases e : k = j
          · subst e; exact fun h => hx h.symm
          · exact hno.out k (by omega) h')
        have hxb : (x == l[j]'hjl) = false := by simpa using hx
        clear hx hno
        generalize l[j]'hjl = y at *
        go_wp2_with fail
        go_round
        case rel => exact ⟨j + 1, by omega, by go_num, hno'⟩
        case measure => (simp [intOf]; try omega)
    · obtain rfl : j = n := by omega
      have hfin := Lib.hid (show idxI x l = -1 from idxI_no fun hm => by
        obtain ⟨k, hk, e⟩ := List.mem_iff_getElem.1 hm
        exact hno.out k (by rw [← hn'.out]; exact hk) hk e)
      go_wp2_with fail
      go_ret
      exact ⟨by rw [hfin.out]; rfl, rfl⟩

theorem contains_c (x : Int) (l : List Int) (a : Option Addr) (c : Nat) (w : World) (hl : l.length ≤ 9223372036854775807) (hr : RdI w a l) :
    Calls Try.prog 38 #[.slice a l.length c, .int .i64 x] w fun e w' => e = .returned (.bool (decide (x ∈ l))) ∧ w = w' := by
  have hi := Lib.hid (index_c x l a c w hl hr)
  have hd := Lib.hid (show decide (idxI x l ≥ 0) = decide (x ∈ l) by rw [decide_eq_decide]; exact idxI_nonneg)
  generalize decide (x ∈ l) = r at *
  generalize idxI x l = i at *
  clear hr
  go_enter Try.func38, Try.ntmps38
  go_wp2_with fail
  refine hi.out.mono ?_
  rintro e w' ⟨rfl, rfl⟩
  go_wp2_with fail
  go_ret
  exact ⟨ret_b hd.out, rfl⟩

theorem elemI : ElemK Try.prog 32 3 1 (.int .i64 0) 8 := ⟨by kernel_rfl, by kernel_rfl, rfl, by decide⟩

theorem clone_c (l : List Int) (b o c : Nat) (w : World) {L : List Pc} (H : SL w L) (hl : l.length ≤ 1000000) (hr : RdI w (some ⟨b, o, none⟩) l) :
    Calls Try.prog 33 #[.slice (some ⟨b, o, none⟩) l.length c] w fun e w' => ∃ a' c', e = .returned (.slice a' l.length c') ∧ SL w' (.own 3 1 (.slice a' l.length c') l.length (iv l) :: L) := by
  obtain ⟨n, hn⟩ : ∃ n, l.length = n := ⟨_, rfl⟩
  have hn' := Lib.hid hn
  have hr' := Lib.hid hr
  rw [hn] at hl ⊢
  clear hn hr
  have hq := fun (w : World) (a : Option Addr) (n c : Nat) => Lib.run_eql_slice_nil (P := Try.prog) w 32 3 a n c 0 0 Try.underlying32
  go_enter Try.func33, Try.ntmps33
  go_wp2_with (
    at_builtin
    have K0 := (Kp.refl no w).alloc (.cells #[] 3)
    have H1 := (H.new (q := .own 3 1 (.slice (some ⟨w.heap.size, 0, none⟩) 0 0) 0 []) K0 ⟨rfl, .inr ⟨_, 0, #[], rfl, Nat.zero_le _, blk_new w _, Nat.le_refl _, Nat.zero_le _, rfl, rfl⟩⟩ (fun x hx => Nat.le_of_eq (Option.some.inj hx)))
    have R1 := hr'.out.rd.no K0
    refine sl_app H1 rfl _ _ _ rfl elemI _ rfl (.here _ _) (iv l) rfl (by rw [iv_length]; exact (by rw [hn'.out, Nat.mul_one])) R1 (iv_one l) (by simp only [maxLen]; omega) (by omega) (fun h => by cases h) ?_
    intro v' w3 H3 hnil
    clear K0 H1 R1)
  have hv := OwnK.slice H3.head
  obtain ⟨a', c', rfl, -⟩ := hv
  rw [Nat.zero_add] at H3
  have H3' := Lib.hid H3
  go_wp2_with fail
  go_ret
  exact ⟨a', c', by simp, by simpa using H3'.out⟩
end Go.Proofs.Ytaibdcglhibglaa
