/- The walk of the reference's Nodes. -/
import Derived.Test.YtaibdcglhibglaaRefS
namespace Go.Proofs.Ytaibdcglhibglaa
open Go.RowKit
set_option linter.unusedVariables false

/-- What Nodes has seen: the last one, or -1. -/
structure NodR (l : List Int) (nodes : Int) (j : Nat) (last : Int) : Prop where
  ris : RisR l nodes j
  at_ : (j = 0 ∧ last = -1) ∨ ∃ (k : Nat) (h : k < l.length), j = k + 1 ∧ last = l[k]'h ∧ 0 ≤ last
theorem NodR.next {l : List Int} {nodes : Int} {j : Nat} {last : Int} (h : NodR l nodes j last) (hj : j < l.length) (h1 : last < l[j]) (h2 : l[j] < nodes) : NodR l nodes (j + 1) l[j] := by
  have h0 : 0 ≤ l[j] := by
    rcases h.at_ with ⟨-, rfl⟩ | ⟨k, hk, -, -, h3⟩ <;> omega
  refine ⟨h.ris.next hj h0 h2 fun hp => ?_, .inr ⟨j, hj, rfl, rfl, h0⟩⟩
  rcases h.at_ with ⟨h3, -⟩ | ⟨k, hk, h3, h4, -⟩
  · omega
  · subst h3
    simp only [Nat.add_sub_cancel]
    rw [← h4]; exact h1
theorem NodR.no {l : List Int} {nodes : Int} {j : Nat} {last : Int} (h : NodR l nodes j last) (hj : j < l.length) (h1 : l[j] ≤ last ∨ nodes ≤ l[j]) : risingI l nodes = false := by
  refine RisR.no hj ?_
  rcases h1 with h1 | h1
  · rcases h.at_ with ⟨-, rfl⟩ | ⟨k, hk, h3, h4, -⟩
    · exact .inl (by omega)
    · subst h3
      exact .inr (.inr ⟨by omega, by simp only [Nat.add_sub_cancel]; rw [← h4]; exact h1⟩)
  · exact .inr (.inl h1)
theorem NodR.fin {l : List Int} {nodes last : Int} (h : NodR l nodes l.length last) : risingI l nodes = decide (0 ≤ last) := by
  rw [h.ris.yes, decide_eq_decide]
  rcases h.at_ with ⟨h1, h2⟩ | ⟨k, hk, h1, -, h2⟩ <;> omega

set_option maxHeartbeats 4000000 in
theorem refNodes_c (l : List Int) (nodes : Int) (a : Option Addr) (c : Nat) (w : World) (hl : l.length ≤ 1000000) (hr : RdI w a l) :
    Calls Try.prog 51 #[.slice a l.length c, .int .i64 nodes] w fun e w' => e = .returned (.bool (risingI l nodes)) ∧ w = w' := by
  have hr' := Lib.hid hr
  obtain ⟨n, hn⟩ : ∃ n, l.length = n := ⟨_, rfl⟩
  have hn' := Lib.hid hn
  rw [hn] at hl ⊢
  clear hr hn
  go_enter Try.func51, Try.ntmps51
  go_wp2_with fail
  go_loopw [6, 5] (fun i t V => ∃ (j : Nat) (last : Int), j ≤ n ∧ i = .int .i64 j ∧ t = .int .i64 last ∧ NodR l nodes j last ∧ V = w) (fun i _ _ => n - (intOf i).toNat)
  case atStart => exact ⟨0, -1, by omega, rfl, rfl, ⟨⟨fun k h => by omega, fun k h => by omega⟩, .inl ⟨rfl, rfl⟩⟩, by trivial⟩
  case round =>
    obtain ⟨j, last, hj, rfl, rfl, hs, hV⟩ := hrel
    subst hV
    by_cases hjn : j < n
    · have hjl : j < l.length := by rw [hn'.out]; exact hjn
      obtain ⟨b, o, rfl, hc⟩ := hr'.out.cell hjl
      have hnext := Lib.hid (fun h1 h2 => hs.next hjl h1 h2)
      have hno := Lib.hid (fun h => hs.no hjl h)
      generalize l[j]'hjl = x at *
      by_cases h1 : x ≤ last
      · have hf := Lib.hid (hno.out (.inl h1))
        clear hnext hno hs
        go_wp2_with fail
        go_ret
        exact ⟨by rw [hf.out]; rfl, by trivial⟩
      by_cases h2 : nodes ≤ x
      · have hf := Lib.hid (hno.out (.inr h2))
        have h1' : last < x := by omega
        clear hnext hno hs h1
        go_wp2_with fail
        go_ret
        exact ⟨by rw [hf.out]; rfl, by trivial⟩
      have h1' : last < x := by omega
      have h2' : x < nodes := by omega
      have hn2 := Lib.hid (hnext.out h1' h2')
      clear h1 h2 hnext hno hs
      go_wp2_with fail
      go_roundw
      case rel => exact ⟨j + 1, x, by omega, by go_num, rfl, hn2.out, by trivial⟩
      case measure => (simp [intOf]; try omega)
    · obtain rfl : j = n := by omega
      have hfin := Lib.hid (show risingI l nodes = decide (0 ≤ last) from NodR.fin (by rw [hn'.out]; exact hs))
      clear hs
      go_wp2_with fail
      go_ret
      exact ⟨by rw [hfin.out]; rfl, by trivial⟩
end Go.Proofs.Ytaibdcglhibglaa
