/- The passes of the law BarrierAll, opened to cells. -/
import Derived.Test.YtejgkehcplajhaaOpenB
import Derived.Test.YtejgkehcplajhaaAllW
import Derived.Test.YtejgkehcplajhaaOrdersW
namespace Go.Proofs.Ytejgkehcplajhaa
open Go.Joins Go.ChangeShapes Go.WideShapes Go.RowKit Go.Deep
set_option linter.unusedVariables false

section
variable {H : Type} {enc : TypeId × Value → H} {W : World} {base : Nat} {spare : Nat → Bool} {held : Bool}
theorem open_passes {r : Reach} {b0 : Nat} {v : Value} {d : DataW H} {p : List MemPlace} (hv : Value.okWide Try.prog W r b0 29 v) (h : DataW.Trod enc Try.prog W base (fun _ => true) held 29 v d p) :
    ∃ (a : Option Addr) (len cap : Nat) (ops : Nat → Int × Int), v = .slice a len cap ∧ (RdPass W a len ops ∧ len ≤ 9223372036854775807) := by
  obtain ⟨a0, l0, c0, rfl⟩ := okWide_slice Try.underlying29 hv
  obtain ⟨fuel, hf⟩ := h
  rcases open_slice_fields Try.underlying29 Try.underlying37 (by kernel_rfl) (by kernel_rfl) hf with ⟨hcs, _⟩ | ⟨y, l, c, m, D, Pl, hcs, _, hl, hm, hmm, _, hi⟩
  · simp [Value.cells] at hcs
    obtain ⟨rfl, rfl, rfl⟩ := hcs
    exact ⟨none, 0, 0, fun _ => (0, 0), rfl, fun i hi => (by omega), by omega⟩
  · simp [Value.cells] at hcs
    obtain ⟨rfl, rfl, rfl⟩ := hcs
    simp only [if_true] at hmm
    subst hmm
    have key : ∀ i, i < l0 → ∃ (f : Int × Int) (b o : Nat), y = ⟨b, o, none⟩ ∧ W.cell? ⟨b, o + i * 2, none⟩ = some (.int .u8 f.1) ∧ W.cell? ⟨b, o + i * 2 + 1, none⟩ = some (.int .u8 f.2) ∧ (0 ≤ f.1 ∧ f.1 ≤ 255) ∧ 0 ≤ f.2 ∧ f.2 ≤ 255 := by
      intro i hil
      obtain ⟨ys, n, -, -, -, hfd⟩ := hi i (by omega)
      obtain ⟨ys0, n0, -, -, -, hfd0⟩ := hi 0 (by omega)
      obtain ⟨v0, q0, hc0, -, ht0⟩ := hfd0 0 _ rfl
      obtain ⟨v1, q1, h0, -, t0⟩ := hfd 0 _ rfl
      obtain ⟨v2, q2, h1, -, t1⟩ := hfd 1 _ rfl
      obtain ⟨z0, e0, -, b0⟩ := DataW.trod_int Try.underlying5 t0
      obtain ⟨z1, e1, -, b1⟩ := DataW.trod_int Try.underlying5 t1
      cases e0; cases e1
      have b0' := wf_b b0
      have b1' := wf_b b1
      obtain ⟨b, o, sp⟩ := y
      have hs : sp = none := by
        have : W.cell? ⟨b, o, sp⟩ = some v0 := by simpa [Addr.add] using hc0
        simpa using World.cell?_spot this
      subst hs
      rw [Addr.add_lit] at h0 h1
      exact ⟨(z0, z1), b, o, rfl, by simpa using h0, by simpa [Nat.add_assoc] using h1, b0', b1'⟩
    refine ⟨some y, l0, _, fun i => if h : i < l0 then (key i h).choose else (0, 0), rfl, fun i hil => ?_, by unfold maxLen at hm; omega⟩
    obtain ⟨b, o, h1, h2, h3, h4⟩ := (key i hil).choose_spec
    simp only [dif_pos hil]
    exact ⟨b, o, by rw [h1], h2, h3, h4⟩
end

theorem walkAll (set fr : Int) (a : Option Addr) (len cap : Nat) (ops : Nat → Int × Int) (w : World) (w0 : (Lit.int .u8 set).wf = true) (w1 : (Lit.int .u8 fr).wf = true) (w2 : RdPass w a len ops ∧ len ≤ 9223372036854775807) :
    Calls Try.prog 4 #[.int .u8 set, .int .u8 fr, .slice a len cap] w fun e w' => e = .returned (.bool true) ∧ Below w.heap.size w w' :=
  (all_c set fr a len cap ops w (wf_b w0).1 (wf_b w0).2 (wf_b w1).1 (wf_b w1).2 w2.2 w2.1).mono fun _ _ ⟨h1, h2⟩ => ⟨h1, h2.self_below⟩
end Go.Proofs.Ytejgkehcplajhaa
