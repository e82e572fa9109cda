/- The plain law of BarrierAll. -/
import Derived.Test.YtejgkehcplajhaaOrders
namespace Go.Proofs.Ytejgkehcplajhaa
open Go.RowKit
set_option linter.unusedVariables false

/-- Who met what, as the law notes it: six rows of twelve. -/
def metC (ms : List Int) (g f : Nat) (ps : Int → Bool) : List Value := (List.range 72).map fun i => .bool (hasM g f ms ps (i / 12 : Nat) (i % 12 : Nat))

theorem metC_at {ms : List Int} {g f : Nat} {ps : Int → Bool} {m k : Nat} (hm : m < 6) (hk : k < 12) : (metC ms g f ps)[m * 12 + k]? = some (.bool (hasM g f ms ps m k)) := by
  have h : m * 12 + k < 72 := by omega
  have e1 : (m * 12 + k) / 12 = m := by omega
  have e2 : (m * 12 + k) % 12 = k := by omega
  simp only [metC, List.getElem?_map, List.getElem?_range h, Option.map_some, e1, e2]

theorem metC_set {ms : List Int} {g f f' : Nat} {ps ps' : Int → Bool} {m k : Nat} (hm : m < 6) (hk : k < 12)
    (h : ∀ (y j : Int), hasM g f' ms ps' y j = (hasM g f ms ps y j || (y == m && j == k))) : (metC ms g f ps).set (m * 12 + k) (.bool true) = metC ms g f' ps' := by
  refine List.ext_getElem (by simp [metC]) fun i h1 h2 => ?_
  have hi : i < 72 := by simpa [metC] using h2
  rw [List.getElem_set]
  simp only [metC, List.getElem_map, List.getElem_range, h]
  split
  · next he =>
    have e1 : i / 12 = m := by omega
    have e2 : i % 12 = k := by omega
    simp [e1, e2]
  · next he =>
    have : ((((i / 12 : Nat) : Int) == (m : Int)) && (((i % 12 : Nat) : Int) == (k : Int))) = false := by
      simp only [Bool.and_eq_false_iff, beq_eq_false_iff_ne, ne_eq]
      by_cases h3 : ((i / 12 : Nat) : Int) = m
      · exact .inr (by omega)
      · exact .inl h3
    rw [this, Bool.or_false]

theorem metC_zero (ms : List Int) (g : Nat) : metC ms g g (fun _ => false) = List.replicate 72 (.bool false) := by
  refine List.ext_getElem (by simp [metC]) fun i h1 h2 => ?_
  simp only [metC, List.getElem_map, List.getElem_range, List.getElem_replicate, hasM]
  simp

theorem missL_nil2 {ms : List Int} {ps : Int → Bool} : missL ms ps = [] ↔ ∀ x ∈ ms, ps x = true := by
  simp [missL, List.filter_eq_nil_iff]

/-- What a call of Passed turns. -/
def PassRel (on : Bool) (e : Int) (g f f' k : Nat) (ms : List Int) (ps ps' : Int → Bool) (x : Int) : Prop :=
  (on = false ∧ e = 250 ∧ f' = f ∧ ps' = ps) ∨
  (e = 0 ∧ k ≤ f ∧ (∀ (y j : Int), hasM g f' ms ps' y j = (hasM g f ms ps y j || (y == x && j == k))) ∧ ((on = false ∧ f' = f) ∨ (on = true ∧ f' = f + 1)))

theorem pass3 {g f k : Nat} {ms : List Int} {ps : Int → Bool} {x : Int} (hm : missL ms ps ≠ []) (hf : f ≤ 12) (hg : g ≤ f) (hk : k < 12) :
    ∃ on e f' ps', passM g f 12 ms ps x k = (on, e, ((f' : Nat) : Int), ps') ∧ missL ms ps' ≠ [] ∧ f' ≤ 12 ∧ g ≤ f' ∧ PassRel on e g f f' k ms ps ps' x := by
  unfold passM
  by_cases c1 : x ∉ ms ∨ (k : Int) < g ∨ (f : Int) < k ∨ (k : Int) = 12
  · rw [if_pos c1]
    exact ⟨false, 250, f, ps, rfl, hm, hf, hg, .inl ⟨rfl, rfl, rfl, rfl⟩⟩
  rw [if_neg c1]
  simp only [not_or, Decidable.not_not] at c1
  obtain ⟨c1, c2, c3, c4⟩ := c1
  by_cases d1 : (k : Int) < f
  · rw [if_pos d1]
    refine ⟨false, 0, f, ps, rfl, hm, hf, hg, .inr ⟨rfl, by omega, fun y j => ?_, .inl ⟨rfl, rfl⟩⟩⟩
    by_cases hy : y = x ∧ j = k
    · obtain ⟨rfl, rfl⟩ := hy
      have : (g : Int) ≤ k := by omega
      simp [hasM, c1, this, d1]
    · have : (y == x && j == (k : Int)) = false := by
        rw [Bool.and_eq_false_iff]
        by_cases h3 : y = x
        · exact .inr (by simpa using fun h => hy ⟨h3, h⟩)
        · exact .inl (by simpa using h3)
      rw [this, Bool.or_false]
  rw [if_neg d1]
  obtain rfl : k = f := by omega
  by_cases d2 : missL ms (fun y => ps y || y == x) = []
  · rw [if_pos d2]
    have hne : ms ≠ [] := List.ne_nil_of_mem c1
    refine ⟨true, 0, k + 1, fun _ => false, by simp, missL_none hne, by omega, by omega, .inr ⟨rfl, by omega, fun y j => ?_, .inr ⟨rfl, rfl⟩⟩⟩
    have hall := missL_nil2.1 d2
    by_cases hy : y ∈ ms
    · have hq := hall y hy
      by_cases hgj : (g : Int) ≤ j
      · by_cases hj : j < (k : Int)
        · have : j < (k : Int) + 1 := by omega
          simp [hasM, hy, hgj, hj, this]
        · by_cases hj2 : j = (k : Int)
          · subst hj2
            simp only [hasM, hy, hgj]
            simp only [Bool.or_eq_true, beq_iff_eq] at hq
            simp
            rcases hq with h | h <;> simp [h] <;> omega
          · have h3 : ¬ j < ((k + 1 : Nat) : Int) := by omega
            simp only [hasM, hy, hgj, hj, hj2, h3]
            simp [hj2]
      · have : ¬ j = (k : Int) := by omega
        simp [hasM, hgj, this]
    · have : ¬ y = x := fun h => hy (h ▸ c1)
      simp [hasM, hy, this]
  · rw [if_neg d2]
    refine ⟨false, 0, k, fun y => ps y || y == x, rfl, d2, hf, hg, .inr ⟨rfl, by omega, fun y j => ?_, .inl ⟨rfl, rfl⟩⟩⟩
    by_cases hy : y ∈ ms
    · by_cases hj2 : j = (k : Int)
      · subst hj2
        have : (g : Int) ≤ k := by omega
        simp [hasM, hy, this]
      · simp [hasM, hj2]
    · have : ¬ y = x := fun h => hy (h ▸ c1)
      simp [hasM, hy, this]

theorem hasM_below {g f : Nat} {ms : List Int} {ps : Int → Bool} {x k : Int} (hx : x ∈ ms) (h1 : (g : Int) ≤ k) (h2 : k < (f : Int)) : hasM g f ms ps x k = true := by
  simp [hasM, hx, h1, h2]
theorem hasM_at {g f : Nat} {ms : List Int} {ps : Int → Bool} {x : Int} (hg : g ≤ f) (h : hasM g f ms ps x f = true) : ps x = true := by
  simp [hasM] at h; exact h.2
theorem not_all {g f : Nat} {ms : List Int} {ps : Int → Bool} (hm : missL ms ps ≠ []) (hg : g ≤ f) (h : ∀ x ∈ ms, hasM g f ms ps x f = true) : False :=
  hm (missL_nil2.2 fun x hx => hasM_at hg (h x hx))

structure Ac where
  w : World
  set : Int
  g : Nat
  p : Nat
  m : Nat
  a : Option Addr
  c : Nat
  q : Nat
  al : Option Addr
  cl : Nat

def ALL (x : Ac) (f : Nat) (ps : Int → Bool) : List Pc :=
  .blk x.q (metC (memb x.set) x.g f ps) 35 :: BAR x.p x.m x.a x.c (memb x.set) x.g f 12 ps [.own 3 1 (.slice x.al (memb x.set).length x.cl) (memb x.set).length (iv (memb x.set)), .old x.w no]

/-- A slice that came in of passes: a node, a frame each. -/
def RdPass (w : World) (a : Option Addr) (n : Nat) (f : Nat → Int × Int) : Prop :=
  ∀ i, i < n → ∃ b o, a = some ⟨b, o, none⟩ ∧ w.cell? ⟨b, o + i * 2, none⟩ = some (.int .u8 (f i).1) ∧ w.cell? ⟨b, o + i * 2 + 1, none⟩ = some (.int .u8 (f i).2) ∧ (0 ≤ (f i).1 ∧ (f i).1 ≤ 255) ∧ 0 ≤ (f i).2 ∧ (f i).2 ≤ 255
theorem RdPass.no {w w' : World} {a : Option Addr} {n : Nat} {f : Nat → Int × Int} (h : RdPass w a n f) (k : Kp no w w') : RdPass w' a n f := fun i hi => by
  obtain ⟨b, o, h1, h2, h3, h4⟩ := h i hi
  exact ⟨b, o, h1, k.cell h2 (fun h => h), k.cell h3 (fun h => h), h4⟩
end Go.Proofs.Ytejgkehcplajhaa
