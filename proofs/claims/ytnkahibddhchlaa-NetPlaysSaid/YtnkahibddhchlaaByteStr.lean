/- Bytes as a string. -/
import Derived.Test.YtnkahibddhchlaaByteSl
import Derived.Laws.BytesArg
import Derived.Laws.IdiomStrings
namespace Go.Proofs.Ytnkahibddhchlaa
open Go.RowKit
set_option linter.unusedVariables false

/-- All are bytes. -/
def By (l : List Int) : Prop := ∀ z ∈ l, 0 ≤ z ∧ z ≤ 255
theorem strOf_inj {l k : List Int} (hl : By l) (hk : By k) (h : strOfNums l = strOfNums k) : l = k := by
  have h1 : l.map (fun n => UInt8.ofNat n.toNat) = k.map (fun n => UInt8.ofNat n.toNat) := by
    rw [← strOfNums_data, ← strOfNums_data, h]
  clear h
  induction l generalizing k with
  | nil => cases k with
    | nil => rfl
    | cons => simp at h1
  | cons x l ih => cases k with
    | nil => simp at h1
    | cons y k =>
      simp only [List.map_cons, List.cons.injEq] at h1
      have hx := hl x (by simp)
      have hy := hk y (by simp)
      have e : x = y := by
        have := congrArg UInt8.toNat h1.1
        simp only [UInt8.toNat_ofNat'] at this
        omega
      rw [e, ih (fun z hz => hl z (by simp [hz])) (fun z hz => hk z (by simp [hz])) h1.2]
theorem strOf_beq {l k : List Int} (hl : By l) (hk : By k) : ((strOfNums l).toList == (strOfNums k).toList) = decide (l = k) := by
  rw [Bool.eq_iff_iff, beq_iff_eq, decide_eq_true_eq, ByteArray.toList_eq, ByteArray.toList_eq]
  exact ⟨fun h => strOf_inj hl hk (Go.WideShapes.bytes_inj h), fun h => by rw [h]⟩

theorem run_str {w : World} {a : Option Addr} {l : List Int} (c : Nat) (h : RdB w a l) (hn : a = none → l = []) :
    (convert 29 9 (.slice a l.length c)).run Try.prog w = .ok (.string (strOfNums l)) w := by
  cases a with
  | none =>
    rw [hn rfl]
    exact run_convert_bytes_nil w 29 5 Try.underlying29 Try.underlying5 _ c 9 Try.underlying9
  | some x =>
    by_cases h0 : l = []
    · subst h0
      exact run_convert_bytes_back w 29 9 5 x c [] Try.underlying29 Try.underlying5 Try.underlying9 (fun j hj => by simp at hj)
    · have hp : 0 < l.length := List.length_pos_iff.2 h0
      obtain ⟨b, o, e, _⟩ := h 0 hp
      cases e
      refine run_convert_bytes_arg w 29 5 Try.underlying29 Try.underlying5 b o l.length c l rfl (fun i hi => ?_) 9 Try.underlying9
      obtain ⟨b', o', e, hc⟩ := h i hi
      cases e
      exact hc
end Go.Proofs.Ytnkahibddhchlaa
