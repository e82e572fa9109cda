/- Who joined an epoch, and who is ready: the plain law. -/
import Derived.Test.YtaibdcglhibglaaRestsL
namespace Go.Proofs.Ytaibdcglhibglaa
open Go.RowKit
set_option linter.unusedVariables false
set_option linter.unusedSimpArgs false

/-- The proposer's state while members join. -/
structure JoinI (x : St) (l : List Int) : Prop where
  self : x.self = 0
  nodes : x.nodes = 6
  disp : x.disp = 5
  N : x.N = 4
  By : x.By = 0
  ms : x.ms = l
  sub : ∀ k, x.ps k = true → k ∈ l

theorem JoinI.yes {x : St} {l : List Int} (h : JoinI x l) {k c : Int} (hk : k ∈ l) (hc : 0 ≤ c) :
    x.join k 4 0 c = (0, { x with ps := fun i => x.ps i || i == k, count := if k = 5 then c else x.count }) := by
  unfold St.join
  rw [if_pos ⟨⟨h.N.symm, h.By.symm⟩, h.self.symm⟩, if_neg (by rw [h.ms]; rintro (h | h); omega; exact h hk), h.disp]
theorem JoinI.no {x : St} {l : List Int} (h : JoinI x l) {k c : Int} (hn : ¬ (k ∈ l ∧ 0 ≤ c)) : x.join k 4 0 c = (240, x) := by
  unfold St.join
  rw [if_pos ⟨⟨h.N.symm, h.By.symm⟩, h.self.symm⟩, if_pos]
  rw [h.ms]
  by_cases hk : k ∈ l
  · left
    have : ¬ 0 ≤ c := fun hc => hn ⟨hk, hc⟩
    omega
  · exact .inr hk
theorem JoinI.other {x : St} {l : List Int} (h : JoinI x l) (k c : Int) : x.join k 3 0 c = (241, x) := by
  unfold St.join
  rw [if_neg]
  rintro ⟨⟨h1, -⟩, -⟩
  rw [h.N] at h1
  omega
theorem JoinI.step {x : St} {l : List Int} (h : JoinI x l) {k c : Int} (hk : k ∈ l) : JoinI { x with ps := fun i => x.ps i || i == k, count := if k = 5 then c else x.count } l :=
  ⟨h.self, h.nodes, h.disp, h.N, h.By, h.ms, fun i hi => by
    simp only [Bool.or_eq_true, beq_iff_eq] at hi
    rcases hi with hi | rfl
    · exact h.sub i hi
    · exact hk⟩
theorem JoinI.ready {x : St} {l : List Int} (h : JoinI x l) {b : Bool} (hb : (x.ps 5 && l.all x.ps) = b) : x.ready = (if b then x.count else 0, b) := by
  unfold St.ready
  rw [h.disp, h.ms]
  cases b
  · rw [if_neg]
    · rfl
    · rintro ⟨-, h5, hm⟩
      have hall : ∀ y ∈ l, x.ps y = true := by
        intro y hy
        unfold missL at hm
        have := List.filter_eq_nil_iff.1 hm y hy
        simpa using this
      have : (x.ps 5 && l.all x.ps) = true := by
        rw [Bool.and_eq_true]
        exact ⟨hall 5 h5, List.all_eq_true.2 hall⟩
      rw [this] at hb
      cases hb
  · rw [Bool.and_eq_true] at hb
    rw [if_pos]
    · rfl
    · refine ⟨by rw [h.By, h.self], h.sub 5 hb.1, ?_⟩
      unfold missL
      rw [List.filter_eq_nil_iff]
      intro y hy
      have := List.all_eq_true.1 hb.2 y hy
      simp [this]

theorem mem_snoc (A y : Int) (t : List Int) : decide (A ∈ t ++ [y]) = (decide (A ∈ t) || (y == A)) := by
  rw [Bool.eq_iff_iff]
  simp only [decide_eq_true_eq, List.mem_append, List.mem_singleton, Bool.or_eq_true, beq_iff_eq]
  constructor
  · rintro (h | h)
    · exact .inl h
    · exact .inr h.symm
  · rintro (h | h)
    · exact .inl h
    · exact .inr h.symm
/-- The beginning: what the proposal makes. -/
theorem joins_first (s : Int) : ((St0 0 5 6).heard 3 1).2.can (setL s 6) = true := by
  have hm : heardM 6 3 1 0 0 = (0, 3, 1) := by decide
  unfold St.heard
  show St.can { St0 0 5 6 with gN := (heardM 6 3 1 0 0).2.1, gBy := (heardM 6 3 1 0 0).2.2 } _ = true
  rw [hm]
  unfold St.can
  have h1 := setL_rising s
  have h2 := setL_zero s
  show ((risingI (setL s 6) 6 && (decide ((setL s 6).getD 0 0 = 0) && !decide ((3 : Int) = 4294967295))) && !(decide ((3 : Int) = 0 ∧ (1 : Int) = 0) && decide (setL s 6 = (rangeI 6)))) = true
  rw [h1, h2]
  simp

/-- A slice that came in of acts. -/
structure ActM where
  kind : Int
  A : Int
  B : Int
  set : Int
  N : Int
def ActAt (w : World) (b off : Nat) (x : ActM) : Prop :=
  w.cell? ⟨b, off, none⟩ = some (.int .i64 x.kind) ∧ w.cell? ⟨b, off + 1, none⟩ = some (.int .i64 x.A) ∧ w.cell? ⟨b, off + 2, none⟩ = some (.int .i64 x.B) ∧ w.cell? ⟨b, off + 3, none⟩ = some (.int .u8 x.set) ∧ w.cell? ⟨b, off + 4, none⟩ = some (.int .i64 x.N)
def RdActs (w : World) (a : Option Addr) (n : Nat) (f : Nat → ActM) : Prop := ∀ i, i < n → ∃ b o, a = some ⟨b, o, none⟩ ∧ ActAt w b (o + i * 5) (f i) ∧ 0 ≤ (f i).set ∧ (f i).set ≤ 255
theorem ActAt.no {w w' : World} {b o : Nat} {x : ActM} (h : ActAt w b o x) (k : Kp no w w') : ActAt w' b o x :=
  ⟨k.cell h.1 (fun h => h), k.cell h.2.1 (fun h => h), k.cell h.2.2.1 (fun h => h), k.cell h.2.2.2.1 (fun h => h), k.cell h.2.2.2.2 (fun h => h)⟩
theorem RdActs.no {w w' : World} {a : Option Addr} {n : Nat} {f : Nat → ActM} (h : RdActs w a n f) (k : Kp no w w') : RdActs w' a n f := fun i hi => by
  obtain ⟨b, o, h1, h2, h3⟩ := h i hi
  exact ⟨b, o, h1, h2.no k, h3⟩
end Go.Proofs.Ytaibdcglhibglaa
