/- The arguments of the laws BarrierPlays and BarrierAll, opened to cells. -/
import Derived.Test.YtejgkehcplajhaaRows
import Derived.Test.YtejgkehcplajhaaPlaysW
import Derived.Deep.Slices
import Derived.Deep.Fields
import Derived.ChangeSame
import Derived.Lib.SmallJoins
import Derived.ProofKit
import Derived.OpenShut
namespace Go.Proofs.Ytejgkehcplajhaa
open Go.Joins Go.ChangeShapes Go.WideShapes Go.RowKit Go.Deep
set_option linter.unusedVariables false

section
variable {H : Type} {enc : TypeId × Value → H} {P : Program} {w : World} {base : Nat} {spare : Nat → Bool} {held : Bool}
theorem open_slice_fields {t e : TypeId} {fs : Array Field} {fuel : Nat} {cs : List Value} {x : DataW H × List MemPlace} (ht : P.underlying t = some (.slice e)) (he : P.underlying e = some (.struct fs))
    (hone : oneCellFields P fs = true) (hC : P.cellsOf e = fs.size) (h : DataW.trod enc P w base spare held fuel t cs = some x) :
    (cs = [.slice none 0 0] ∧ x = (.nil, [])) ∨
    ∃ (a : Addr) (len cap m : Nat) (D : Nat → DataW H) (Pl : Nat → List MemPlace), cs = [.slice (some a) len cap] ∧ base ≤ a.block ∧ len ≤ cap ∧ cap ≤ maxLen ∧ m = (if spare a.block then cap else len) ∧
      x = (.slice ((List.range len).map D) ((List.range (m - len)).map fun j => D (len + j)), MemPlace.row a (m * fs.size) ++ (List.range m).flatMap Pl) ∧
      ∀ i, i < m → ∃ (ys : List (DataW H × List MemPlace)) (n : Nat), D i = .agg (ys.map (·.1)) ∧ Pl i = ys.flatMap (·.2) ∧ ys.length = fs.size ∧
        ∀ (j : Nat) (f : Field), fs[j]? = some f → ∃ (v : Value) (y : DataW H × List MemPlace), w.cell? (a.add (i * fs.size + j)) = some v ∧ ys[j]? = some y ∧ DataW.trod enc P w base spare held n f.type [v] = some y := by
  rcases open_slice ht h with h0 | ⟨a, len, cap, m, n, D, Pl, hcs, hb, hl, hm, hmm, hx, hi⟩
  · exact .inl h0
  · refine .inr ⟨a, len, cap, m, D, Pl, hcs, hb, hl, hm, hmm, by rw [hC] at hx; exact hx, fun i him => ?_⟩
    obtain ⟨cs', hc, ht'⟩ := hi i him
    rw [hC] at hc
    obtain ⟨ys, n', hn', hy, hlen, hyl, hf⟩ := DataW.trod_struct he ht'
    obtain ⟨_, hcl, hat⟩ := World.cells?_some hc
    simp only [Prod.mk.injEq] at hy
    refine ⟨ys, n', hy.1, hy.2, hyl, fun j f hj => ?_⟩
    obtain ⟨ho, hk⟩ := hone_of hone j f hj
    have hjl : j < fs.size := (Array.getElem?_eq_some_iff.1 hj).1
    have hcell := hat j hjl
    have hv : cs'[j]? = some (cs'[j]'(by omega)) := List.getElem?_eq_getElem (by omega)
    have h1 := hf j f hj
    rw [ho, hk] at h1
    have hone' : (cs'.drop j).take 1 = [cs'[j]'(by omega)] := by
      rw [List.drop_eq_getElem_cons (by omega)]
      rfl
    rw [hone'] at h1
    have hys : ys[j]? = some (ys[j]'(by omega)) := List.getElem?_eq_getElem (by omega)
    refine ⟨_, _, ?_, hys, h1.trans hys⟩
    rw [← Go.Deep.add_add, hcell, hv]
end

section
variable {H : Type} {enc : TypeId × Value → H} {W : World} {base : Nat} {spare : Nat → Bool} {held : Bool}

theorem isRow_rdI {w : World} {a : Option Addr} {len cap : Nat} {zs : List Int} (h : IsRow .i64 w a len cap zs) : ∃ ms : List Int, ms.length = len ∧ RdI w a ms ∧ len ≤ 9223372036854775807 := by
  refine ⟨(List.range len).map fun i => zs.getD i 0, by simp, ?_, ?_⟩
  · unfold RdI
    rw [List.length_map, List.length_range]
    refine h.rd.congr fun i hi => ?_
    simp [hi]
  · have h1 := h.len.1
    have h2 := h.len.2.1
    unfold maxLen at h2
    omega

/-- A slice of integers, of its one cell. -/
theorem open_slice_int {t e : TypeId} {fuel : Nat} {v : Value} {x : DataW H × List MemPlace} (ht : Try.prog.underlying t = some (.slice e)) (he : Try.prog.underlying e = some (.int .i64)) (hc : Try.prog.cellsOf e = 1)
    (h : DataW.trod enc Try.prog W base (fun _ => true) held fuel t [v] = some x) : ∃ (a : Option Addr) (ms : List Int) (c : Nat), v = .slice a ms.length c ∧ RdI W a ms ∧ (a = none → c = 0) ∧ ms.length ≤ 9223372036854775807 := by
  rcases open_ints ht he hc h with ⟨hcs, _⟩ | ⟨y, l, c, zs, hcs, _, hl, hm, hz, _, hcell, hwz⟩
  · cases hcs
    exact ⟨none, [], 0, rfl, fun i hi => (by simp at hi), fun _ => rfl, by simp⟩
  · cases hcs
    obtain ⟨ms, h1, h2, h3⟩ := isRow_rdI (.inr ⟨y, rfl, hl, hm, by simpa using hz, hcell, hwz⟩ : IsRow .i64 W (some y) l c zs)
    exact ⟨some y, ms, c, by rw [h1], h2, (fun h => by cases h), by rw [h1]; exact h3⟩

theorem open_start {r : Reach} {b0 : Nat} {v : Value} {d : DataW H} {p : List MemPlace} (hv : Value.okWide Try.prog W r b0 45 v) (h : DataW.Trod enc Try.prog W base (fun _ => true) held 45 v d p) :
    ∃ (sa : Option Addr) (sc : Nat) (ms : List Int) (fr n : Int), v = .agg #[.slice sa ms.length sc, .int .i64 fr, .int .i64 n] ∧ (RdI W sa ms ∧ (sa = none → sc = 0) ∧ ms.length ≤ 9223372036854775807) := by
  obtain ⟨v0, v1, v2, y0, y1, y2, m, rfl, -, -, h0, h1, h2⟩ := open_agg3 Try.underlying45 (by kernel_rfl) (by kernel_rfl) hv h
  obtain ⟨sa, ms, sc, rfl, g1, g2, g3⟩ := open_slice_int Try.underlying22 Try.underlying3 (by kernel_rfl) h0
  obtain ⟨fr, e1, -, -⟩ := DataW.trod_int Try.underlying3 h1
  obtain ⟨n, e2, -, -⟩ := DataW.trod_int Try.underlying3 h2
  cases e1; cases e2
  exact ⟨sa, sc, ms, fr, n, rfl, g1, g2, g3⟩

theorem open_ops {r : Reach} {b0 : Nat} {v : Value} {d : DataW H} {p : List MemPlace} (hv : Value.okWide Try.prog W r b0 46 v) (h : DataW.Trod enc Try.prog W base (fun _ => true) held 46 v d p) :
    ∃ (a : Option Addr) (len cap : Nat) (ops : Nat → Int × Int × Int), v = .slice a len cap ∧ (RdOp W a len ops ∧ len ≤ 9223372036854775807) := by
  obtain ⟨a0, l0, c0, rfl⟩ := okWide_slice Try.underlying46 hv
  obtain ⟨fuel, hf⟩ := h
  rcases open_slice_fields Try.underlying46 Try.underlying53 (by kernel_rfl) (by kernel_rfl) hf with ⟨hcs, _⟩ | ⟨y, l, c, m, D, Pl, hcs, _, hl, hm, hmm, _, hi⟩
  · simp [Value.cells] at hcs
    obtain ⟨rfl, rfl, rfl⟩ := hcs
    exact ⟨none, 0, 0, fun _ => (0, 0, 0), rfl, fun i hi => (by omega), by omega⟩
  · simp [Value.cells] at hcs
    obtain ⟨rfl, rfl, rfl⟩ := hcs
    simp only [if_true] at hmm
    subst hmm
    have key : ∀ i, i < l0 → ∃ (f : Int × Int × Int) (b o : Nat), y = ⟨b, o, none⟩ ∧ W.cell? ⟨b, o + i * 3, none⟩ = some (.int .i64 f.1) ∧ W.cell? ⟨b, o + i * 3 + 1, none⟩ = some (.int .i64 f.2.1) ∧ W.cell? ⟨b, o + i * 3 + 2, none⟩ = some (.int .i64 f.2.2) := by
      intro i hil
      obtain ⟨ys, n, -, -, -, hfd⟩ := hi i (by omega)
      have hz := hi 0 (by omega)
      obtain ⟨ys0, n0, -, -, -, hfd0⟩ := hz
      have cellAt : ∀ j, j < 3 → ∃ z : Int, W.cell? (y.add (i * 3 + j)) = some (.int .i64 z) := by
        intro j hj
        have hj' : j = 0 ∨ j = 1 ∨ j = 2 := by omega
        rcases hj' with rfl | rfl | rfl
        · obtain ⟨v, q, hc, -, ht⟩ := hfd 0 _ rfl
          obtain ⟨z, e, -, -⟩ := DataW.trod_int Try.underlying3 ht
          cases e; exact ⟨z, hc⟩
        · obtain ⟨v, q, hc, -, ht⟩ := hfd 1 _ rfl
          obtain ⟨z, e, -, -⟩ := DataW.trod_int Try.underlying3 ht
          cases e; exact ⟨z, hc⟩
        · obtain ⟨v, q, hc, -, ht⟩ := hfd 2 _ rfl
          obtain ⟨z, e, -, -⟩ := DataW.trod_int Try.underlying3 ht
          cases e; exact ⟨z, hc⟩
      obtain ⟨v0, q0, hc0, -, ht0⟩ := hfd0 0 _ rfl
      obtain ⟨z0, z1, z2, h0, h1, h2⟩ : ∃ z0 z1 z2 : Int, W.cell? (y.add (i * 3 + 0)) = some (.int .i64 z0) ∧ W.cell? (y.add (i * 3 + 1)) = some (.int .i64 z1) ∧ W.cell? (y.add (i * 3 + 2)) = some (.int .i64 z2) := by
        obtain ⟨z0, h0⟩ := cellAt 0 (by omega)
        obtain ⟨z1, h1⟩ := cellAt 1 (by omega)
        obtain ⟨z2, h2⟩ := cellAt 2 (by omega)
        exact ⟨z0, z1, z2, h0, h1, h2⟩
      obtain ⟨b, o, sp⟩ := y
      have hs : sp = none := by
        have : W.cell? ⟨b, o, sp⟩ = some v0 := by simpa [Addr.add] using hc0
        simpa using World.cell?_spot this
      subst hs
      rw [Addr.add_lit] at h0 h1 h2
      exact ⟨(z0, z1, z2), b, o, rfl, by simpa using h0, by simpa [Nat.add_assoc] using h1, by simpa [Nat.add_assoc] using h2⟩
    refine ⟨some y, l0, _, fun i => if h : i < l0 then (key i h).choose else (0, 0, 0), rfl, fun i hil => ?_, by unfold maxLen at hm; omega⟩
    obtain ⟨b, o, h1, h2, h3, h4⟩ := (key i hil).choose_spec
    simp only [dif_pos hil]
    exact ⟨b, o, by rw [h1], h2, h3, h4⟩
end

theorem walkPlays (sa : Option Addr) (sc : Nat) (ms : List Int) (fr n : Int) (a : Option Addr) (len cap : Nat) (ops : Nat → Int × Int × Int) (w : World)
    (f0 : RdI w sa ms ∧ (sa = none → sc = 0) ∧ ms.length ≤ 9223372036854775807) (f1 : RdOp w a len ops ∧ len ≤ 9223372036854775807) :
    Calls Try.prog 5 #[.agg #[.slice sa ms.length sc, .int .i64 fr, .int .i64 n], .slice a len cap] w fun e w' => e = .returned (.bool true) ∧ Below w.heap.size w w' :=
  (plays_c sa a sc len cap ms fr n ops w f0.2.2 f1.2 f0.1 f0.2.1 f1.1).mono fun _ _ ⟨h1, h2⟩ => ⟨h1, h2.self_below⟩
end Go.Proofs.Ytejgkehcplajhaa
