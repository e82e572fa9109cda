/- What holds of a member all the time; what a call makes of it. -/
import Derived.Test.YtaibdcglhibglaaWraps
import Derived.Test.YtaibdcglhibglaaRefP
namespace Go.Proofs.Ytaibdcglhibglaa
open Go.RowKit
set_option linter.unusedVariables false

structure St.Ok (x : St) : Prop where
  n1 : 1 ≤ x.nodes
  n64 : x.nodes ≤ 64
  s0 : 0 ≤ x.self
  s1 : x.self < x.nodes
  g0 : 0 ≤ x.gN
  g1 : x.gN ≤ 4294967295
  ne : x.ms ≠ []
  len : x.ms.length ≤ 100
  ins : ∀ i ∈ x.ms, 0 ≤ i ∧ i < x.nodes

/-- A call: its kind, epoch, members, node, count. -/
structure OpM where
  kind : Int
  N : Int
  By : Int
  ms : List Int
  n : Int
  count : Int
structure OpM.Ok (o : OpM) : Prop where
  N0 : 0 ≤ o.N
  N1 : o.N ≤ 4294967295
  len : o.ms.length ≤ 80

def St.propose (x : St) (l : List Int) : St := if x.can l = true then x.adopt (x.gN + 1) x.self l else x
def St.after (x : St) (o : OpM) : St :=
  if o.kind = 0 then (x.heard o.N o.By).2
  else if o.kind = 1 then x.propose o.ms
  else if o.kind = 2 then (x.offer o.N o.By o.ms).2
  else if o.kind = 3 then x.paid
  else if o.kind = 4 then (x.join o.n o.N o.By o.count).2
  else if o.kind = 5 then (x.join o.n x.N x.By o.count).2
  else x

theorem maxE_in {M Cy gN gBy : Int} (h0 : 0 ≤ M) (h1 : M ≤ 4294967295) (g0 : 0 ≤ gN) (g1 : gN ≤ 4294967295) : 0 ≤ (maxE M Cy gN gBy).1 ∧ (maxE M Cy gN gBy).1 ≤ 4294967295 := by
  unfold maxE
  split
  · exact ⟨h0, h1⟩
  · exact ⟨g0, g1⟩
theorem can_in {x : St} {l : List Int} (h : x.can l = true) : risingI l x.nodes = true ∧ x.gN ≠ 4294967295 := by
  unfold St.can at h
  simp at h
  exact ⟨h.1.1, h.1.2.2⟩
theorem rising_in {l : List Int} {n : Int} (h : risingI l n = true) : l ≠ [] ∧ ∀ i ∈ l, 0 ≤ i ∧ i < n := by
  unfold risingI at h
  have := of_decide_eq_true h
  exact ⟨by rintro rfl; simp at this, this.2.1⟩
theorem may_rising {Cy n : Int} {l : List Int} (h : mayM Cy l n = true) : risingI l n = true := by
  unfold mayM at h
  simp at h
  exact h.2.1

theorem St.Ok.heard {x : St} (h : x.Ok) {M : Int} (Cy : Int) (h0 : 0 ≤ M) (h1 : M ≤ 4294967295) : (x.heard M Cy).2.Ok := by
  have hm := maxE_in (Cy := Cy) (gBy := x.gBy) h0 h1 h.g0 h.g1
  have hg := h.g0
  have hg' := h.g1
  refine ⟨h.n1, h.n64, h.s0, h.s1, ?_, ?_, h.ne, h.len, h.ins⟩
  · show 0 ≤ (heardM x.nodes M Cy x.gN x.gBy).2.1
    unfold heardM
    split
    · exact hg
    · exact hm.1
  · show (heardM x.nodes M Cy x.gN x.gBy).2.1 ≤ _
    unfold heardM
    split
    · exact hg'
    · exact hm.2
theorem St.Ok.meet {x : St} (h : x.Ok) {M : Int} (Cy : Int) (h0 : 0 ≤ M) (h1 : M ≤ 4294967295) : (x.meet M Cy).Ok :=
  have hm := maxE_in (Cy := Cy) (gBy := x.gBy) h0 h1 h.g0 h.g1
  ⟨h.n1, h.n64, h.s0, h.s1, hm.1, hm.2, h.ne, h.len, h.ins⟩
theorem St.Ok.adopt {x : St} (h : x.Ok) {M : Int} (Cy : Int) {l : List Int} (h0 : 0 ≤ M) (h1 : M ≤ 4294967295) (hl : l.length ≤ 100) (hr : risingI l x.nodes = true) : (x.adopt M Cy l).Ok :=
  have hm := maxE_in (Cy := Cy) (gBy := x.gBy) h0 h1 h.g0 h.g1
  ⟨h.n1, h.n64, h.s0, h.s1, hm.1, hm.2, (rising_in hr).1, hl, (rising_in hr).2⟩
theorem St.Ok.propose {x : St} (h : x.Ok) {l : List Int} (hl : l.length ≤ 100) : (x.propose l).Ok := by
  unfold St.propose
  split
  · rename_i hc
    have h2 := can_in hc
    have := h.g0
    have := h.g1
    exact h.adopt _ (by omega) (by omega) hl h2.1
  · exact h
theorem St.Ok.offer {x : St} (h : x.Ok) {M : Int} (Cy : Int) {l : List Int} (h0 : 0 ≤ M) (h1 : M ≤ 4294967295) (hl : l.length ≤ 100) : (x.offer M Cy l).2.Ok := by
  unfold St.offer
  split
  · exact h
  · rename_i hm
    split
    · exact h.meet _ h0 h1
    · exact (h.meet _ h0 h1).adopt _ h0 h1 hl (show risingI l x.nodes = true from may_rising (Cy := Cy) (by simpa using hm))
theorem St.Ok.join {x : St} (h : x.Ok) (k M Cy n : Int) : (x.join k M Cy n).2.Ok := by
  unfold St.join
  split
  · split
    · exact h
    · exact ⟨h.n1, h.n64, h.s0, h.s1, h.g0, h.g1, h.ne, h.len, h.ins⟩
  · exact h
theorem St.Ok.paid {x : St} (h : x.Ok) : x.paid.Ok := ⟨h.n1, h.n64, h.s0, h.s1, h.g0, h.g1, h.ne, h.len, h.ins⟩
theorem St.Ok.after {x : St} (h : x.Ok) {o : OpM} (ho : o.Ok) : (x.after o).Ok := by
  have hl : o.ms.length ≤ 100 := by have := ho.len; omega
  unfold St.after
  split
  · exact h.heard _ ho.N0 ho.N1
  split
  · exact h.propose hl
  split
  · exact h.offer _ ho.N0 ho.N1 hl
  split
  · exact h.paid
  split
  · exact h.join _ _ _ _
  split
  · exact h.join _ _ _ _
  · exact h

theorem St0_ok {self disp : Int} {n : Nat} (h1 : 1 ≤ n) (h2 : n ≤ 64) (h3 : 0 ≤ self) (h5 : self < n) : (St0 self disp n).Ok :=
  ⟨by show (1 : Int) ≤ n; omega, by show (n : Int) ≤ 64; omega, h3, h5, (show (0 : Int) ≤ 0 by omega), (show (0 : Int) ≤ 4294967295 by omega), by
    show rangeI n ≠ []
    intro h
    have := rangeI_length n
    rw [h] at this
    simp at this
    omega, by show (rangeI n).length ≤ 100; rw [rangeI_length]; omega, by
    intro i hi
    have hi : i ∈ rangeI n := hi
    unfold rangeI at hi
    obtain ⟨j, hj, rfl⟩ := List.mem_map.1 hi
    have := List.mem_range.1 hj
    exact ⟨by omega, by show (j : Int) < n; omega⟩⟩

section
variable {p q : Nat} {a a2 : Option Addr} {c b c2 b2 : Nat} {x y : St} {L : List Pc} {w : World}
theorem ms_rs (H : SL w (MS p a c b x (RS q a2 c2 b2 y L))) : SL w (RS q a2 c2 b2 y (MS p a c b x L)) :=
  H.re (.step (.there (.there (.there (.here _ _)))) (.step (.there (.there (.there (.here _ _)))) (.step (.there (.there (.there (.here _ _)))) (.same _))))
theorem rs_ms (H : SL w (RS q a2 c2 b2 y (MS p a c b x L))) : SL w (MS p a c b x (RS q a2 c2 b2 y L)) :=
  H.re (.step (.there (.there (.there (.here _ _)))) (.step (.there (.there (.there (.here _ _)))) (.step (.there (.there (.there (.here _ _)))) (.same _))))
end
end Go.Proofs.Ytaibdcglhibglaa
