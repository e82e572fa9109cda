/- The walks of none, rising, meet, Heard, Greatest, Lets. -/
import Derived.Test.YtaibdcglhibglaaMem
import Derived.Deep.QuietTactic
import Derived.BigQuiet
namespace Go.Proofs.Ytaibdcglhibglaa
open Go.RowKit
set_option linter.unusedVariables false

section
variable {p : Nat} {self nodes disp N By gN gBy count : Int} {s j : Value} {owes : Bool} {L : List Pc} {w : World}
theorem none_c (H : SL w (memB p self nodes disp N By s gN gBy owes j count :: L)) : Calls Try.prog 32 #[.pointer (some ⟨p, 0, none⟩)] w fun r w' => r = .returned (.bool (nodes == 0)) ∧ w = w' := by
  have c1 := H.cell (o := 1) (.here _ _) rfl
  clear H
  go_enter Try.func32, Try.ntmps32
  go_wp2_with fail
  go_ret
  exact ⟨rfl, rfl⟩
theorem none_nil (w : World) : Calls Try.prog 32 #[.pointer none] w fun r w' => r = .returned (.bool true) ∧ w = w' := by
  go_enter Try.func32, Try.ntmps32
  go_wp2_with fail
  go_ret
  exact ⟨rfl, rfl⟩
end

/-- Nodes, rising, each once. -/
def risingI (l : List Int) (nodes : Int) : Bool := decide (0 < l.length ∧ (∀ x ∈ l, 0 ≤ x ∧ x < nodes) ∧ l.Pairwise (· < ·))

/-- What rising has seen. -/
structure RisR (l : List Int) (nodes : Int) (j : Nat) : Prop where
  in_ : ∀ k (h : k < j) (h' : k < l.length), 0 ≤ l[k]'h' ∧ l[k]'h' < nodes
  up : ∀ k (h : k + 1 < j) (h' : k + 1 < l.length), l[k]'(by omega) < l[k + 1]'h'
theorem pairwise_up : ∀ {l : List Int}, (∀ k (h' : k + 1 < l.length), l[k]'(by omega) < l[k + 1]'h') → l.Pairwise (· < ·)
  | [], _ => .nil
  | [x], _ => by simp
  | x :: y :: l, h => by
    have ih := pairwise_up (l := y :: l) (fun k hk => by have := h (k + 1) (by simpa using hk); simpa using this)
    refine .cons (fun z hz => ?_) ih
    have h0 : x < y := h 0 (by simp)
    rcases List.mem_cons.1 hz with rfl | hz
    · exact h0
    · exact Int.lt_trans h0 ((List.pairwise_cons.1 ih).1 z hz)
theorem RisR.yes {l : List Int} {nodes : Int} (h : RisR l nodes l.length) : risingI l nodes = decide (0 < l.length) := by
  unfold risingI
  rw [decide_eq_decide]
  constructor
  · exact fun h => h.1
  · refine fun h0 => ⟨h0, fun x hx => ?_, pairwise_up fun k hk => h.up k hk hk⟩
    obtain ⟨k, hk, rfl⟩ := List.mem_iff_getElem.1 hx
    exact h.in_ k hk hk
theorem RisR.no {l : List Int} {nodes : Int} {j : Nat} (hj : j < l.length) (h : l[j] < 0 ∨ nodes ≤ l[j] ∨ ∃ (h0 : 0 < j), l[j] ≤ l[j - 1]) : risingI l nodes = false := by
  unfold risingI
  rw [decide_eq_false_iff_not]
  rintro ⟨-, h1, h2⟩
  have := h1 _ (List.getElem_mem hj)
  rcases h with h | h | ⟨h0, h⟩
  · omega
  · omega
  · have := List.pairwise_iff_getElem.1 h2 (j - 1) j (by omega) hj (by omega)
    omega
theorem RisR.next {l : List Int} {nodes : Int} {j : Nat} (h : RisR l nodes j) (hj : j < l.length) (h1 : 0 ≤ l[j]) (h2 : l[j] < nodes) (h3 : ∀ (h0 : 0 < j), l[j - 1] < l[j]) : RisR l nodes (j + 1) :=
  ⟨fun k hk hk' => by
    rcases Nat.lt_or_ge k j with h4 | h4
    · exact h.in_ k h4 hk'
    · obtain rfl : k = j := by omega
      exact ⟨h1, h2⟩,
   fun k hk hk' => by
    rcases Nat.lt_or_ge (k + 1) j with h4 | h4
    · exact h.up k h4 hk'
    · obtain rfl : j = k + 1 := by omega
      exact h3 (by omega)⟩

set_option maxHeartbeats 4000000 in
theorem rising_c (l : List Int) (nodes : Int) (a : Option Addr) (c : Nat) (w : World) (hl : l.length ≤ 1000000) (hr : RdI w a l) :
    Calls Try.prog 35 #[.slice a l.length c, .int .i64 nodes] w fun e w' => e = .returned (.bool (risingI l nodes)) ∧ w = w' := by
  have hr' := Lib.hid hr
  obtain ⟨n, hn⟩ : ∃ n, l.length = n := ⟨_, rfl⟩
  have hn' := Lib.hid hn
  rw [hn] at hl ⊢
  clear hr hn
  go_enter Try.func35, Try.ntmps35
  go_wp2_with fail
  go_loop [9] (fun i => ∃ j : Nat, j ≤ n ∧ i = .int .i64 j ∧ RisR l nodes j) (fun i => n - (intOf i).toNat)
  case atStart => exact ⟨0, by omega, rfl, ⟨fun k h => by omega, fun k h => by omega⟩⟩
  case round =>
    obtain ⟨j, hj, rfl, hs⟩ := hrel
    by_cases hjn : j < n
    · have hjl : j < l.length := by rw [hn'.out]; exact hjn
      obtain ⟨b, o, rfl, hc⟩ := hr'.out.cell hjl
      have hnext := Lib.hid (fun h1 h2 h3 => hs.next hjl h1 h2 h3)
      have hno := Lib.hid (fun h => RisR.no (nodes := nodes) hjl h)
      obtain ⟨x, hx⟩ : ∃ x, l[j]'hjl = x := ⟨_, rfl⟩
      rw [hx] at hc
      by_cases h1 : x < 0
      · have hf := Lib.hid (hno.out (.inl (by rw [hx]; exact h1)))
        clear hnext hno hs hx
        go_wp2_with fail
        go_ret
        exact ⟨by rw [hf.out]; rfl, rfl⟩
      by_cases h2 : nodes ≤ x
      · have hf := Lib.hid (hno.out (.inr (.inl (by rw [hx]; exact h2))))
        clear hnext hno hs hx
        go_wp2_with fail
        go_ret
        exact ⟨by rw [hf.out]; rfl, rfl⟩
      have h1' : 0 ≤ x := by omega
      have h2' : x < nodes := by omega
      clear h1 h2
      by_cases h0 : 0 < j
      · have hjl2 : j - 1 < l.length := by omega
        obtain ⟨b', o', hb, hc2⟩ := hr'.out.cell hjl2
        cases hb
        obtain ⟨i, hi⟩ : ∃ i, j - 1 = i := ⟨_, rfl⟩
        have hij : j = i + 1 := by omega
        obtain ⟨y, hy⟩ : ∃ y, l[j - 1]'hjl2 = y := ⟨_, rfl⟩
        rw [hy, hi] at hc2
        have ei : (j : Int) - 1 = (i : Int) := by omega
        have hin : i < n := by omega
        by_cases h3 : x ≤ y
        · have hf := Lib.hid (hno.out (.inr (.inr ⟨h0, by rw [hx, hy]; exact h3⟩)))
          clear hnext hno hs hx hy hi hij
          go_wp2_with fail
          go_ret
          exact ⟨by rw [hf.out]; rfl, rfl⟩
        · have h3' : y < x := by omega
          have hn2 := Lib.hid (hnext.out (by rw [hx]; exact h1') (by rw [hx]; exact h2') (fun _ => by rw [hx, hy]; exact h3'))
          clear hnext hno hs hx hy hi hij h3
          go_wp2_with fail
          go_round
          case rel => exact ⟨j + 1, by omega, by go_num, hn2.out⟩
          case measure => (simp [intOf]; try omega)
      · have hn2 := Lib.hid (hnext.out (by rw [hx]; exact h1') (by rw [hx]; exact h2') (fun h => absurd h h0))
        have h00 : j ≤ 0 := by omega
        clear hnext hno hs hx h0
        go_wp2_with fail
        go_round
        case rel => exact ⟨j + 1, by omega, by go_num, hn2.out⟩
        case measure => (simp [intOf]; try omega)
    · obtain rfl : j = n := by omega
      have hfin := Lib.hid (show risingI l nodes = decide (0 < j) by have := RisR.yes (l := l) (nodes := nodes) (by rw [hn'.out]; exact hs); rw [this, hn'.out])
      clear hs
      go_wp2_with fail
      go_ret
      exact ⟨by rw [hfin.out]; simp, rfl⟩
end Go.Proofs.Ytaibdcglhibglaa
