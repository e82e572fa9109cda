/- The arguments of the law WindowPlays, opened to cells. -/
import Derived.Test.YtkoajbmomipjkaaDoorPlaysW
import Derived.Test.YtkoajbmomipjkaaDoorRoomT
import Derived.Deep.Slices
import Derived.Deep.Fields
import Derived.ChangeSame
import Derived.Lib.SmallJoins
import Derived.ProofKit
import Derived.OpenShut
namespace Go.Proofs.YtkoajbmomipjkaaDoor
open Go.Joins Go.ChangeShapes Go.WideShapes Go.RowKit Go.Deep
set_option linter.unusedVariables false

section
variable {H : Type} {enc : TypeId × Value → H} {P : Program} {w : World} {base : Nat} {spare : Nat → Bool} {held : Bool}
theorem open_slice_fields {t e : TypeId} {fs : Array Field} {fuel : Nat} {cs : List Value} {x : DataW H × List MemPlace} (ht : P.underlying t = some (.slice e)) (he : P.underlying e = some (.struct fs))
    (hone : oneCellFields P fs = true) (hC : P.cellsOf e = fs.size) (h : DataW.trod enc P w base spare held fuel t cs = some x) :
    (cs = [.slice none 0 0] ∧ x = (.nil, [])) ∨
    ∃ (a : Addr) (len cap m : Nat) (D : Nat → DataW H) (Pl : Nat → List MemPlace), cs = [.slice (some a) len cap] ∧ base ≤ a.block ∧ len ≤ cap ∧ cap ≤ maxLen ∧ m = (if spare a.block then cap else len) ∧
      x = (.slice ((List.range len).map D) ((List.range (m - len)).map fun j => D (len + j)), MemPlace.row a (m * fs.size) ++ (List.range m).flatMap Pl) ∧
      ∀ i, i < m → ∃ (ys : List (DataW H × List MemPlace)) (n : Nat), D i = .agg (ys.map (·.1)) ∧ Pl i = ys.flatMap (·.2) ∧ ys.length = fs.size ∧
        ∀ (j : Nat) (f : Field), fs[j]? = some f → ∃ (v : Value) (y : DataW H × List MemPlace), w.cell? (a.add (i * fs.size + j)) = some v ∧ ys[j]? = some y ∧ DataW.trod enc P w base spare held n f.type [v] = some y := by
  rcases open_slice ht h with h0 | ⟨a, len, cap, m, n, D, Pl, hcs, hb, hl, hm, hmm, hx, hi⟩
  · exact .inl h0
  · refine .inr ⟨a, len, cap, m, D, Pl, hcs, hb, hl, hm, hmm, by rw [hC] at hx; exact hx, fun i him => ?_⟩
    obtain ⟨cs', hc, ht'⟩ := hi i him
    rw [hC] at hc
    obtain ⟨ys, n', hn', hy, hlen, hyl, hf⟩ := DataW.trod_struct he ht'
    obtain ⟨_, hcl, hat⟩ := World.cells?_some hc
    simp only [Prod.mk.injEq] at hy
    refine ⟨ys, n', hy.1, hy.2, hyl, fun j f hj => ?_⟩
    obtain ⟨ho, hk⟩ := hone_of hone j f hj
    have hjl : j < fs.size := (Array.getElem?_eq_some_iff.1 hj).1
    have hcell := hat j hjl
    have hv : cs'[j]? = some (cs'[j]'(by omega)) := List.getElem?_eq_getElem (by omega)
    have h1 := hf j f hj
    rw [ho, hk] at h1
    have hone' : (cs'.drop j).take 1 = [cs'[j]'(by omega)] := by
      rw [List.drop_eq_getElem_cons (by omega)]
      rfl
    rw [hone'] at h1
    have hys : ys[j]? = some (ys[j]'(by omega)) := List.getElem?_eq_getElem (by omega)
    refine ⟨_, _, ?_, hys, h1.trans hys⟩
    rw [← Go.Deep.add_add, hcell, hv]
end

section
variable {H : Type} {enc : TypeId × Value → H} {W : World} {base : Nat} {spare : Nat → Bool} {held : Bool}
theorem open_ops {r : Reach} {b0 : Nat} {v : Value} {d : DataW H} {p : List MemPlace} (hv : Value.okWide Tryd.prog W r b0 48 v) (h : DataW.Trod enc Tryd.prog W base (fun _ => true) held 48 v d p) :
    ∃ (a : Option Addr) (len cap : Nat) (ops : Nat → Int × Nat × BitVec 64), v = .slice a len cap ∧ (RdOps W a len ops ∧ len ≤ 9223372036854775807) := by
  obtain ⟨a0, l0, c0, rfl⟩ := okWide_slice Tryd.underlying48 hv
  obtain ⟨fuel, hf⟩ := h
  rcases open_slice_fields Tryd.underlying48 Tryd.underlying55 (by kernel_rfl) (by kernel_rfl) hf with ⟨hcs, _⟩ | ⟨y, l, c, m, D, Pl, hcs, _, hl, hm, hmm, _, hi⟩
  · simp [Value.cells] at hcs
    obtain ⟨rfl, rfl, rfl⟩ := hcs
    exact ⟨none, 0, 0, fun _ => (0, 0, 0#64), rfl, fun i hi => (by omega), by omega⟩
  · simp [Value.cells] at hcs
    obtain ⟨rfl, rfl, rfl⟩ := hcs
    simp only [if_true] at hmm
    subst hmm
    have key : ∀ i, i < l0 → ∃ (f : Int × Nat × BitVec 64) (b o : Nat), y = ⟨b, o, none⟩ ∧ W.cell? ⟨b, o + i * 3, none⟩ = some (.int .i64 f.1) ∧ W.cell? ⟨b, o + i * 3 + 1, none⟩ = some (.int .u64 (f.2.1 : Nat)) ∧ W.cell? ⟨b, o + i * 3 + 2, none⟩ = some (.int .u64 (U f.2.2)) ∧ f.2.1 ≤ 18446744073709551615 := by
      intro i hil
      obtain ⟨ys, n, -, -, -, hfd⟩ := hi i (by omega)
      obtain ⟨ys0, n0, -, -, -, hfd0⟩ := hi 0 (by omega)
      obtain ⟨v0, q0, hc0, -, ht0⟩ := hfd0 0 _ rfl
      obtain ⟨v1, q1, h0, -, t0⟩ := hfd 0 _ rfl
      obtain ⟨v2, q2, h1, -, t1⟩ := hfd 1 _ rfl
      obtain ⟨v3, q3, h2, -, t2⟩ := hfd 2 _ rfl
      obtain ⟨z0, e0, -, b0⟩ := DataW.trod_int Tryd.underlying3 t0
      obtain ⟨z1, e1, -, b1⟩ := DataW.trod_int Tryd.underlying22 t1
      obtain ⟨z2, e2, -, b2⟩ := DataW.trod_int Tryd.underlying22 t2
      cases e0; cases e1; cases e2
      obtain ⟨u0, u1⟩ := wf_u64 b1
      obtain ⟨x0, x1⟩ := wf_u64 b2
      obtain ⟨b, o, sp⟩ := y
      have hs : sp = none := by
        have : W.cell? ⟨b, o, sp⟩ = some v0 := by simpa [Addr.add] using hc0
        simpa using World.cell?_spot this
      subst hs
      rw [Addr.add_lit] at h0 h1 h2
      have ez1 : ((z1.toNat : Nat) : Int) = z1 := by omega
      have ez2 : U (BitVec.ofInt 64 z2) = z2 := U_of 64 z2 x0 (by omega)
      refine ⟨(z0, z1.toNat, BitVec.ofInt 64 z2), b, o, rfl, by simpa using h0, ?_, ?_, by dsimp only; omega⟩
      · dsimp only; rw [ez1]; simpa [Nat.add_assoc] using h1
      · dsimp only; rw [ez2]; simpa [Nat.add_assoc] using h2
    refine ⟨some y, l0, _, fun i => if h : i < l0 then (key i h).choose else (0, 0, 0#64), rfl, fun i hil => ?_, by unfold maxLen at hm; omega⟩
    obtain ⟨b, o, h1, h2, h3, h4, h5⟩ := (key i hil).choose_spec
    simp only [dif_pos hil]
    exact ⟨b, o, by rw [h1], h2, h3, h4, h5⟩
end

theorem walkPlays (a0 a1 : Int) (a : Option Addr) (len cap : Nat) (ops : Nat → Int × Nat × BitVec 64) (w : World) (w0 : (Lit.int .u64 a0).wf = true) (w1 : (Lit.int .u64 a1).wf = true)
    (f1 : RdOps w a len ops ∧ len ≤ 9223372036854775807) (ht : Lib.TabIs Tryd.prog w "math/bits.deBruijn64tab" .u8 tz64) :
    Calls Tryd.prog 6 #[.int .u64 a0, .int .u64 a1, .slice a len cap] w fun e w' => e = .returned (.bool true) ∧ Below w.heap.size w w' := by
  obtain ⟨b0, b1⟩ := wf_u64 w0
  obtain ⟨c0, c1⟩ := wf_u64 w1
  obtain ⟨N, rfl⟩ : ∃ N : Nat, a0 = N := ⟨a0.toNat, by omega⟩
  have hb : a1 = U (BitVec.ofInt 64 a1) := (U_of 64 a1 c0 (by omega)).symm
  rw [hb]
  exact (plays_c N _ b1 a len cap ops w f1.2 (tab_of ht) f1.1).mono fun _ _ ⟨h1, h2⟩ => ⟨h1, h2.self_below⟩
end Go.Proofs.YtkoajbmomipjkaaDoor
