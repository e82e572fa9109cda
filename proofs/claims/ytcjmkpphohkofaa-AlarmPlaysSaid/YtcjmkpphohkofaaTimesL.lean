/- Set, Drop, Calm, whatever they answer; plain laws of one key's alarm. -/
import Derived.Test.YtcjmkpphohkofaaAlive
namespace Go.Proofs.Ytcjmkpphohkofaa
open Go.RowKit
set_option linter.unusedVariables false

def setS (s : Ck) (k : Int) : Ck := if hasK s.l k = true ∨ 256 ≤ s.l.length then s else { s with l := insK s.l k s.a }
def dropS (s : Ck) (k : Int) : Ck := { s with l := dropK s.l k }
def calmS (s : Ck) (k : Int) : Ck := { s with l := calmK s.l k s.a }
def belowS (s : Ck) (k : Int) : Ck := { s with l := fromK s.l k }
theorem setS_ab (s : Ck) (k : Int) : (setS s k).a = s.a ∧ (setS s k).b = s.b := by
  unfold setS
  split
  · exact ⟨rfl, rfl⟩
  · exact ⟨rfl, rfl⟩
theorem dropK_no {l : List Al} {k : Int} (h : hasK l k = false) : dropK l k = l := filter_all fun x hx => by simpa using hasK_no.1 h x hx
theorem calmK_no {l : List Al} {k a : Int} (h : hasK l k = false) : calmK l k a = l := by
  unfold calmK
  refine (List.map_congr_left (g := id) fun x hx => ?_).trans (List.map_id _)
  unfold calmA
  rw [if_neg (hasK_no.1 h x hx)]
  rfl
section
variable {R : Int} {p : Nat} {s : Ck} {L : List Pc} {w : World}
/-- What Set answers. -/
def setE (s : Ck) (k : Int) : Int := if hasK s.l k = true ∨ 256 ≤ s.l.length then 200 else 0
def hasE (s : Ck) (k : Int) : Int := if hasK s.l k = true then 0 else 200
theorem set_c (H : CAt R p s L w) (hR : 0 ≤ R) {k : Int} (hk : u64k k) :
    Calls Try.prog 10 #[ptrV p, .int .u64 k] w fun e w' => e = .returned (.int .i64 (setE s k)) ∧ CAt R p (setS s k) L w' := by
  unfold setS setE
  by_cases h : hasK s.l k = true ∨ 256 ≤ s.l.length
  · rw [if_pos h, if_pos h]
    exact set_no H k h
  · rw [if_neg h, if_neg h]
    obtain ⟨h1, h2⟩ := not_or.1 h
    exact set_yes H hR hk (by simpa using h1) (by omega)
theorem drop_c (H : CAt R p s L w) (k : Int) :
    Calls Try.prog 11 #[ptrV p, .int .u64 k] w fun e w' => e = .returned (.int .i64 (hasE s k)) ∧ CAt R p (dropS s k) L w' := by
  unfold hasE dropS
  cases h : hasK s.l k with
  | true => exact drop_yes H h
  | false =>
    rw [dropK_no h]
    exact drop_no H h
theorem calm_c (H : CAt R p s L w) (k : Int) :
    Calls Try.prog 15 #[ptrV p, .int .u64 k] w fun e w' => e = .returned (.int .i64 (hasE s k)) ∧ CAt R p (calmS s k) L w' := by
  unfold hasE calmS
  cases h : hasK s.l k with
  | true => exact calm_yes H h
  | false =>
    rw [calmK_no h]
    exact calm_no H h
end

theorem the_of {l : List Al} (hs : Srt l) {x : Al} (hx : x ∈ l) : theK l x.key = x := by
  have h : hasK l x.key = true := hasK_iff.2 ⟨x, hx, rfl⟩
  obtain ⟨h1, h2⟩ := the_mem h
  obtain ⟨i, hi, e1⟩ := List.getElem_of_mem h1
  obtain ⟨j, hj, e2⟩ := List.getElem_of_mem hx
  have := hs.ne hi hj (by rw [e1, e2]; exact h2)
  subst this
  rw [← e1, e2]
theorem mem_set {s : Ck} {x : Al} {k : Int} (h : x ∈ s.l) : x ∈ (setS s k).l := by
  unfold setS
  split
  · exact h
  · show x ∈ insK s.l k s.a
    unfold insK
    by_cases hk : x.key < k
    · exact List.mem_append.2 (.inl (List.mem_filter.2 ⟨h, by simpa using hk⟩))
    · exact List.mem_append.2 (.inr (List.mem_cons.2 (.inr (List.mem_filter.2 ⟨h, by simpa using hk⟩))))
theorem mem_drop {s : Ck} {x : Al} {k : Int} (h : x ∈ s.l) (hk : x.key ≠ k) : x ∈ (dropS s k).l := List.mem_filter.2 ⟨h, by simpa using hk⟩
theorem mem_tick {s : Ck} {x : Al} (h : x ∈ s.l) : tk s.b x ∈ (tickS s).l := List.mem_map.2 ⟨x, h, rfl⟩
theorem ring_iff {l : List Al} (hs : Srt l) {x : Al} (hx : x ∈ l) : x.key ∈ ringsK l ↔ ¬ 1 < x.left := by
  unfold ringsK keysK
  constructor
  · intro h
    obtain ⟨y, hy, e⟩ := List.mem_map.1 h
    obtain ⟨h1, h2⟩ := List.mem_filter.1 hy
    have : x = y := by
      have e1 := the_of hs hx
      have e2 := the_of hs h1
      rw [← e1, ← e2, e]
    subst this
    simpa [ringP] using h2
  · intro h
    exact List.mem_map.2 ⟨x, List.mem_filter.2 ⟨hx, by simpa [ringP] using h⟩, rfl⟩
theorem rings_srt {l : List Al} (hs : Srt l) : (ringsK l).Pairwise (· < ·) := List.pairwise_map.2 (hs.filter ringP)
theorem keys_srt {l : List Al} (hs : Srt l) : (keysK l).Pairwise (· < ·) := List.pairwise_map.2 hs
end Go.Proofs.Ytcjmkpphohkofaa
