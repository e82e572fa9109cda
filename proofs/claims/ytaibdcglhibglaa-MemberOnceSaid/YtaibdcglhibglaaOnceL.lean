/- No epoch is proposed twice, and who has the same one has the same members: the plain law. -/
import Derived.Test.YtaibdcglhibglaaOnceA
namespace Go.Proofs.Ytaibdcglhibglaa
open Go.RowKit
set_option linter.unusedVariables false
set_option linter.unusedSimpArgs false

/-- Whether an epoch is not greater than another one. -/
def leE (N By M Cy : Int) : Prop := N < M ∨ (N = M ∧ By ≤ Cy)
theorem leE_refl (N By : Int) : leE N By N By := .inr ⟨rfl, Int.le_refl _⟩
theorem leE.trans {a b c d e f : Int} (h : leE a b c d) (k : leE c d e f) : leE a b e f := by unfold leE at *; omega
theorem cmpE_nn {N By M Cy : Int} : 0 ≤ cmpE N By M Cy ↔ leE M Cy N By := by
  unfold cmpE orL orL orL cmpI leE
  by_cases h1 : N < M
  · simp [h1]; omega
  · by_cases h2 : M < N
    · simp [h1, h2]
    · have h3 : N = M := by omega
      subst h3
      by_cases h4 : By < Cy
      · simp [h4]
      · by_cases h5 : Cy < By
        · simp [h4, h5]; omega
        · simp [h4, h5]; omega
theorem cmpE_pos {N By M Cy : Int} : 0 < cmpE N By M Cy ↔ ¬ leE N By M Cy := by
  unfold cmpE orL orL orL cmpI leE
  by_cases h1 : N < M
  · simp [h1]
  · by_cases h2 : M < N
    · simp [h1, h2]; omega
    · have h3 : N = M := by omega
      subst h3
      by_cases h4 : By < Cy
      · simp [h4]; omega
      · by_cases h5 : Cy < By
        · simp [h4, h5]
        · simp [h4, h5] <;> omega
theorem maxE_ways (M Cy g b : Int) : (maxE M Cy g b = (M, Cy) ∧ leE g b M Cy) ∨ (maxE M Cy g b = (g, b) ∧ leE M Cy g b) := by
  unfold maxE
  split
  · rename_i h
    refine .inl ⟨rfl, ?_⟩
    have := cmpE_pos.1 h
    unfold leE at *
    omega
  · rename_i h
    refine .inr ⟨rfl, ?_⟩
    rw [cmpE_pos] at h
    exact Classical.not_not.1 h
theorem maxE_ge (M Cy g b : Int) : leE g b (maxE M Cy g b).1 (maxE M Cy g b).2 ∧ leE M Cy (maxE M Cy g b).1 (maxE M Cy g b).2 := by
  rcases maxE_ways M Cy g b with ⟨h, k⟩ | ⟨h, k⟩
  · rw [h]; exact ⟨k, leE_refl _ _⟩
  · rw [h]; exact ⟨leE_refl _ _, k⟩

/-- A view that was proposed, and where its members lie. -/
structure Vw where
  N : Int
  By : Int
  ms : List Int
  a : Option Addr
  c : Nat

structure VsI (vs : List Vw) : Prop where
  pos : ∀ v ∈ vs, 1 ≤ v.N ∧ v.N ≤ 4294967295
  len : ∀ v ∈ vs, v.ms.length ≤ 6
  one : ∀ u ∈ vs, ∀ v ∈ vs, u.N = v.N → u.By = v.By → u = v

/-- The i-th member. -/
structure OneI (i : Nat) (vs : List Vw) (y : St) : Prop where
  ok : y.Ok
  self : y.self = i
  nodes : y.nodes = 6
  mem : (i : Int) ∈ y.ms
  le : leE y.N y.By y.gN y.gBy
  of : (y.N = 0 ∧ y.By = 0 ∧ y.ms = rangeI 6) ∨ ∃ v ∈ vs, v.N = y.N ∧ v.By = y.By ∧ v.ms = y.ms
  own : ∀ v ∈ vs, v.By = i → leE v.N v.By y.gN y.gBy

theorem OneI.same {i j : Nat} {vs : List Vw} {y z : St} (h : OneI i vs y) (k : OneI j vs z) (hv : VsI vs) (h1 : y.N = z.N) (h2 : y.By = z.By) : y.ms = z.ms := by
  rcases h.of with ⟨a1, a2, a3⟩ | ⟨u, hu, a1, a2, a3⟩
  · rcases k.of with ⟨b1, b2, b3⟩ | ⟨v, hv', b1, b2, b3⟩
    · rw [a3, b3]
    · have := hv.pos v hv'; omega
  · rcases k.of with ⟨b1, b2, b3⟩ | ⟨v, hv', b1, b2, b3⟩
    · have := hv.pos u hu; omega
    · have := hv.one u hu v hv' (by omega) (by omega)
      rw [← a3, ← b3, this]

theorem OneI.first {i : Nat} (hi : i < 6) : OneI i [] (St0 i 5 6) :=
  ⟨St0_ok (by omega) (by omega) (by omega) (by omega), rfl, rfl, by
    show (i : Int) ∈ rangeI 6
    unfold rangeI
    exact List.mem_map.2 ⟨i, List.mem_range.2 hi, rfl⟩, leE_refl _ _, .inl ⟨rfl, rfl, rfl⟩, by simp⟩

/-- What is seen of a member behind an act. -/
structure Seen (y z : St) : Prop where
  up : leE y.N y.By z.N z.By
  ms : z.N = y.N → z.By = y.By → z.ms = y.ms

theorem Seen.rfl' (y : St) : Seen y y := ⟨leE_refl _ _, fun _ _ => rfl⟩

theorem OneI.heard {i : Nat} {vs : List Vw} {y : St} (h : OneI i vs y) {M Cy : Int} (h0 : 0 ≤ M) (h1 : M ≤ 4294967295) : OneI i vs (y.heard M Cy).2 ∧ Seen y (y.heard M Cy).2 := by
  have hg : leE y.gN y.gBy (y.heard M Cy).2.gN (y.heard M Cy).2.gBy := by
    show leE y.gN y.gBy (heardM y.nodes M Cy y.gN y.gBy).2.1 (heardM y.nodes M Cy y.gN y.gBy).2.2
    unfold heardM
    split
    · exact leE_refl _ _
    · exact (maxE_ge _ _ _ _).1
  exact ⟨⟨h.ok.heard _ h0 h1, h.self, h.nodes, h.mem, h.le.trans hg, h.of, fun v hv hb => (h.own v hv hb).trans hg⟩, leE_refl _ _, fun _ _ => rfl⟩

theorem OneI.offer {i : Nat} {vs : List Vw} {y : St} (h : OneI i vs y) (hv : VsI vs) {v : Vw} (hm : v ∈ vs) : OneI i vs (y.offer v.N v.By v.ms).2 ∧ Seen y (y.offer v.N v.By v.ms).2 := by
  have hp := hv.pos v hm
  have hok := h.ok.offer v.By (l := v.ms) (show 0 ≤ v.N by omega) hp.2 (by have := hv.len v hm; omega)
  unfold St.offer at hok ⊢
  split
  · exact ⟨h, Seen.rfl' y⟩
  · rename_i hmay
    split
    · rename_i hle
      rw [if_neg hmay, if_pos hle] at hok
      have hg := (maxE_ge v.N v.By y.gN y.gBy).1
      exact ⟨⟨hok, h.self, h.nodes, h.mem, h.le.trans hg, h.of, fun u hu hb => (h.own u hu hb).trans hg⟩, leE_refl _ _, fun _ _ => rfl⟩
    · rename_i hgt
      rw [if_neg hmay, if_neg hgt] at hok
      have hgt' : 0 < cmpE v.N v.By y.N y.By ∧ y.self ∈ v.ms := by
        by_cases h1 : cmpE v.N v.By y.N y.By ≤ 0
        · exact absurd (.inl h1) hgt
        · by_cases h2 : y.self ∈ v.ms
          · exact ⟨by omega, h2⟩
          · exact absurd (.inr h2) hgt
      have hnle := cmpE_pos.1 hgt'.1
      have hg1 := maxE_ge v.N v.By y.gN y.gBy
      have hg2 := maxE_ge v.N v.By (maxE v.N v.By y.gN y.gBy).1 (maxE v.N v.By y.gN y.gBy).2
      refine ⟨⟨hok, h.self, h.nodes, ?_, hg2.2, .inr ⟨v, hm, rfl, rfl, rfl⟩, fun u hu hb => ((h.own u hu hb).trans hg1.1).trans hg2.1⟩, ?_, fun h1 h2 => ?_⟩
      · show (i : Int) ∈ v.ms
        rw [← h.self]; exact hgt'.2
      · show leE y.N y.By v.N v.By
        unfold leE at *; omega
      · have h1 : v.N = y.N := h1
        have h2 : v.By = y.By := h2
        rw [h1, h2] at hnle
        exact absurd (leE_refl _ _) hnle

theorem OneI.propose {i : Nat} {vs : List Vw} {y : St} (h : OneI i vs y) (hv : VsI vs) {l : List Int} (hc : y.can l = true) (hl : l.length ≤ 6) (a : Option Addr) (c : Nat) :
    (∀ u ∈ vs, ¬ (u.N = y.gN + 1 ∧ u.By = y.self)) ∧ VsI (vs ++ [⟨y.gN + 1, y.self, l, a, c⟩]) ∧ OneI i (vs ++ [⟨y.gN + 1, y.self, l, a, c⟩]) (y.adopt (y.gN + 1) y.self l) ∧ Seen y (y.adopt (y.gN + 1) y.self l) := by
  have hci := can_in hc
  have hg0 := h.ok.g0
  have hg1 := h.ok.g1
  have hnew : ∀ u ∈ vs, ¬ (u.N = y.gN + 1 ∧ u.By = y.self) := by
    rintro u hu ⟨h1, h2⟩
    have := h.own u hu (by rw [h2, h.self])
    unfold leE at this
    omega
  have hm := maxE_up y.gN y.self y.gBy
  have hself : y.self ∈ l := by
    have hr := hci.1
    have h2 : l.getD 0 0 = y.self := by
      unfold St.can at hc
      simp at hc
      have := hc.1.2.1
      simpa using this
    have hp := rising_pos hr
    rw [← h2]
    have : l.getD 0 0 = l[0] := by simp [hp]
    rw [this]
    exact List.getElem_mem hp
  refine ⟨hnew, ⟨?_, ?_, ?_⟩, ⟨h.ok.adopt _ (by omega) (by omega) (by omega) hci.1, h.self, h.nodes, ?_, ?_, .inr ⟨⟨y.gN + 1, y.self, l, a, c⟩, by simp, rfl, rfl, rfl⟩, ?_⟩, ?_, ?_⟩
  · intro v hm
    rcases List.mem_append.1 hm with hm | hm
    · exact hv.pos v hm
    · obtain rfl : v = _ := by simpa using hm
      exact ⟨by show 1 ≤ y.gN + 1; omega, by show y.gN + 1 ≤ _; omega⟩
  · intro v hm
    rcases List.mem_append.1 hm with hm | hm
    · exact hv.len v hm
    · obtain rfl : v = _ := by simpa using hm
      exact hl
  · intro u hu v hm h1 h2
    rcases List.mem_append.1 hu with hu | hu
    · rcases List.mem_append.1 hm with hm | hm
      · exact hv.one u hu v hm h1 h2
      · obtain rfl : v = _ := by simpa using hm
        exact absurd ⟨h1, h2⟩ (hnew u hu)
    · obtain rfl : u = _ := by simpa using hu
      rcases List.mem_append.1 hm with hm | hm
      · exact absurd ⟨h1.symm, h2.symm⟩ (hnew v hm)
      · obtain rfl : v = _ := by simpa using hm
        rfl
  · show (i : Int) ∈ l
    rw [← h.self]; exact hself
  · show leE (y.gN + 1) y.self (maxE (y.gN + 1) y.self y.gN y.gBy).1 (maxE (y.gN + 1) y.self y.gN y.gBy).2
    rw [hm]; exact leE_refl _ _
  · intro v hvm hb
    show leE v.N v.By (maxE (y.gN + 1) y.self y.gN y.gBy).1 (maxE (y.gN + 1) y.self y.gN y.gBy).2
    rw [hm]
    rcases List.mem_append.1 hvm with hvm | hvm
    · have := h.own v hvm hb
      unfold leE at *
      show v.N < y.gN + 1 ∨ _
      omega
    · obtain rfl : v = _ := by simpa using hvm
      exact leE_refl _ _
  · show leE y.N y.By (y.gN + 1) y.self
    have := h.le
    unfold leE at *
    omega
  · intro h1 h2
    have h1 : y.gN + 1 = y.N := h1
    have := h.le
    unfold leE at this
    omega

/-- All others, beside one more view. -/
theorem OneI.more {i j : Nat} {vs : List Vw} {y z : St} (h : OneI j vs z) (hij : j ≠ i) {u : Vw} (hu : u.By = i) : OneI j (vs ++ [u]) z :=
  ⟨h.ok, h.self, h.nodes, h.mem, h.le, by
    rcases h.of with h | ⟨v, hv, hw⟩
    · exact .inl h
    · exact .inr ⟨v, by simp [hv], hw⟩, fun v hv hb => by
    rcases List.mem_append.1 hv with hv | hv
    · exact h.own v hv hb
    · obtain rfl : v = u := by simpa using hv
      rw [hu] at hb
      omega⟩
end Go.Proofs.Ytaibdcglhibglaa
