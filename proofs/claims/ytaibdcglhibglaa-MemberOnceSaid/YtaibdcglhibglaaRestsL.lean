/- Who proposed of some rests: the plain law. -/
import Derived.Test.YtaibdcglhibglaaSetL
import Derived.Test.YtaibdcglhibglaaKs
namespace Go.Proofs.Ytaibdcglhibglaa
open Go.RowKit
set_option linter.unusedVariables false
set_option linter.unusedSimpArgs false

theorem maxE_up (g c b : Int) : maxE (g + 1) c g b = (g + 1, c) := by
  unfold maxE
  rw [if_pos]
  unfold cmpE orL cmpI
  have h : ¬ g + 1 < g := by omega
  have h2 : g < g + 1 := by omega
  simp [h, h2]
theorem cmpE_eq0 (N By : Int) : cmpE N By N By = 0 := by
  unfold cmpE orL orL orL cmpI
  simp

/-- Propose, whatever comes of it. -/
theorem proposeAny {p : Nat} {a : Option Addr} {c b : Nat} {x : St} {L : List Pc} {w : World} (H : SL w (MS p a c b x L)) (hx : x.Ok) (g : Option Addr) (k m : Nat) (l : List Int) (hlen : l.length = m) (hl : l.length ≤ 1000000) (hr : ∀ V, SL V L → RdI V g l) :
    Calls Try.prog 12 #[.pointer (some ⟨p, 0, none⟩), .slice g m k] w fun r w' => ∃ v a' c' b', r = .returned v ∧ SL w' (MS p a' c' b' (x.propose l) L) := by
  cases hc : x.can l
  · refine (proposeK_no H hx.n1 (by have := hx.len; omega) g k m l hlen hl hr hc).mono ?_
    rintro r w' ⟨rfl, h⟩
    exact ⟨_, _, _, _, rfl, by unfold St.propose; rw [hc, if_neg (by simp)]; exact h⟩
  · refine (proposeK_yes H hx.n1 (by have := hx.len; omega) g k m l hlen hl hr hc ⟨hx.g0, hx.g1⟩ rfl rfl rfl).mono ?_
    rintro r w' ⟨a2, c2, a', c', b', rfl, h⟩
    exact ⟨_, _, _, _, rfl, by unfold St.propose; rw [hc, if_pos rfl]; exact h.tail⟩

/-- What a member is that proposed of some. -/
structure Rest (y : St) (l : List Int) : Prop where
  ok : y.Ok
  s0 : y.self = 0
  n6 : y.nodes = 6
  N : y.N = y.gN
  By : y.By = y.gBy
  ms : y.ms = l
  lim : y.gN ≤ 4294967294

theorem Rest.can {y : St} {l : List Int} (h : Rest y l) : y.can l = false := by
  unfold St.can
  simp [h.N, h.By, h.ms]

theorem rest_of {x : St} (hx : x.Ok) (h0 : x.self = 0) (h6 : x.nodes = 6) (hg : x.gN < 4294967294) {l : List Int} (hr : risingI l 6 = true) (hl : l.getD 0 0 = 0) (hlen : l.length ≤ 100) : Rest (x.propose l) l := by
  have hok := hx.propose (l := l) hlen
  cases hc : x.can l
  · have e : x.propose l = x := by unfold St.propose; rw [hc, if_neg (by simp)]
    rw [e] at hok ⊢
    unfold St.can at hc
    have hgm : ¬ x.gN = 4294967295 := by omega
    have hg0 := hx.g0
    simp only [h6, hr, hl, h0, hgm, Bool.true_and, decide_true, decide_false, Bool.not_false, Bool.not_eq_eq_eq_not] at hc
    simp at hc
    exact ⟨hok, h0, h6, hc.1.1.symm, hc.1.2.symm, hc.2.symm, by omega⟩
  · have e : x.propose l = x.adopt (x.gN + 1) x.self l := by unfold St.propose; rw [hc, if_pos rfl]
    rw [e] at hok ⊢
    have hm := maxE_up x.gN x.self x.gBy
    refine ⟨hok, h0, h6, ?_, ?_, rfl, ?_⟩
    · show x.gN + 1 = (maxE (x.gN + 1) x.self x.gN x.gBy).1
      rw [hm]
    · show x.self = (maxE (x.gN + 1) x.self x.gN x.gBy).2
      rw [hm]
    · show (maxE (x.gN + 1) x.self x.gN x.gBy).1 ≤ _
      rw [hm]; show x.gN + 1 ≤ _; omega

/-- Behind word of an epoch: whether it proposes again. -/
theorem rest_heard {y : St} {l : List Int} (h : Rest y l) (hr : risingI l 6 = true) (hl : l.getD 0 0 = 0) {M Cy : Int} (hM : 0 ≤ M ∧ M ≤ 4294967295) :
    (¬ (0 ≤ Cy ∧ Cy < 6) ∧ (y.heard M Cy).1 = 240 ∧ (y.heard M Cy).2.can l = false) ∨
    ((0 ≤ Cy ∧ Cy < 6) ∧ (y.heard M Cy).1 = 0 ∧ cmpE M Cy y.N y.By ≤ 0 ∧ (y.heard M Cy).2.can l = false) ∨
    ((0 ≤ Cy ∧ Cy < 6) ∧ (y.heard M Cy).1 = 0 ∧ 0 < cmpE M Cy y.N y.By ∧ M = 4294967295 ∧ (y.heard M Cy).2.can l = false) ∨
    ((0 ≤ Cy ∧ Cy < 6) ∧ (y.heard M Cy).1 = 0 ∧ 0 < cmpE M Cy y.N y.By ∧ M < 4294967295 ∧ (y.heard M Cy).2.can l = true ∧ (y.heard M Cy).2.gN = M) := by
  by_cases h1 : 0 ≤ Cy ∧ Cy < 6
  · have hm : heardM y.nodes M Cy y.gN y.gBy = (0, maxE M Cy y.gN y.gBy) := heard_in h1.1 (by rw [h.n6]; exact h1.2)
    right
    by_cases h2 : cmpE M Cy y.N y.By ≤ 0
    · refine .inl ⟨h1, by unfold St.heard; rw [hm], h2, ?_⟩
      have e : maxE M Cy y.gN y.gBy = (y.gN, y.gBy) := by unfold maxE; rw [if_neg]; rw [← h.N, ← h.By]; omega
      unfold St.heard
      rw [hm, e]
      exact h.can
    · have h2' : 0 < cmpE M Cy y.N y.By := by omega
      have e : maxE M Cy y.gN y.gBy = (M, Cy) := by unfold maxE; rw [if_pos]; rw [← h.N, ← h.By]; omega
      right
      by_cases h3 : M = 4294967295
      · refine .inl ⟨h1, by unfold St.heard; rw [hm], h2', h3, ?_⟩
        unfold St.heard
        rw [hm, e, h3]
        unfold St.can
        simp
      · refine .inr ⟨h1, by unfold St.heard; rw [hm], h2', by omega, ?_, by unfold St.heard; rw [hm, e]⟩
        have hne : ¬ (M = y.N ∧ Cy = y.By) := by
          rintro ⟨rfl, rfl⟩
          rw [cmpE_eq0] at h2'
          omega
        unfold St.heard
        rw [hm, e]
        unfold St.can
        simp only [h.n6, hr, hl, h.s0, h3, hne, decide_true, decide_false, Bool.not_false, Bool.and_true, Bool.false_and]
  · left
    have hm : heardM y.nodes M Cy y.gN y.gBy = (240, y.gN, y.gBy) := by unfold heardM; rw [if_pos]; rw [h.n6]; omega
    refine ⟨h1, by unfold St.heard; rw [hm], ?_⟩
    unfold St.heard
    rw [hm]
    exact h.can
end Go.Proofs.Ytaibdcglhibglaa
