/- The reader: NewReader. -/
import Derived.Test.YtilpkfgdlehmpaaDoorRdrV
import Derived.Test.YtilpkfgdlehmpaaDoorByteSl
namespace Go.Proofs.YtilpkfgdlehmpaaDoor
open Go.RowKit Go.Shelf
set_option linter.unusedVariables false

section
variable {r : Nat} {st : RdSt18} {L : List Pc} {w : World}
theorem newr_c {a : Option Addr} {n c : Nat} {bs : List Int} (H : SL w L) (hb : RdB w a bs) (hl : bs.length = n) (hn : n ≤ 6000) (hnil : a = none → c = 0) (hy : ∀ x ∈ bs, byteK x) :
    Calls Tryd.prog 44 #[.slice a n c] w fun e w' => ∃ r v m xs, e = .returned (ptrV r) ∧ RdrAt v m xs r (bs, false) L w' := by
  subst hl
  have hc := Lib.hid (clone_c bs a c w H (by omega) hb hnil)
  have hfin : Hid (∀ V a' c', SL V (.own 5 1 (.slice a' bs.length c') bs.length (bv bs) :: L) → RdrAt (.slice a' bs.length c') bs.length (bv bs) V.heap.size (bs, false) L (V.alloc (.cells [.slice a' bs.length c', .bool true, .bool false].toArray 105))) := Lib.hid fun V a' c' h => by
    have h2 := h.alloc [.slice a' bs.length c', .bool true, .bool false] 105
    have hk : OwnK V 0 5 1 (.slice a' bs.length c') bs.length (bv bs) := h.head
    obtain ⟨a2, c2, e, q1, q2, q3, -⟩ := OwnK.slice hk
    simp only [Value.slice.injEq] at e
    obtain ⟨rfl, -, rfl⟩ := e
    exact ⟨_, _, h2, ⟨q1, q3⟩, hn, hy, fun V M hV i hi => (OwnK.rdB (show OwnK V 0 _ 1 (.slice _ _ _) _ (bv bs) from hV.head)).2.2.cell hi⟩
  clear H hb hy
  go_enter Tryd.func44, Tryd.ntmps44
  go_wp2_with fail
  refine hc.out.mono ?_
  rintro e w2 ⟨a', c', rfl, H2⟩
  have hf := Lib.hid (hfin.out _ _ _ H2)
  clear hc H2 hfin
  go_wp2_with fail
  go_ret
  exact ⟨_, _, _, _, rfl, hf.out⟩
end
end Go.Proofs.YtilpkfgdlehmpaaDoor
