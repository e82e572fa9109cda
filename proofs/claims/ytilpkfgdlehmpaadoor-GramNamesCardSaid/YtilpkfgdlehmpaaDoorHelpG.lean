/- Small lemmas of the walks at the door. -/
import Derived.Test.YtilpkfgdlehmpaaDoorSameC
import Derived.Test.YtilpkfgdlehmpaaDoorEnc
namespace Go.Proofs.YtilpkfgdlehmpaaDoor
open Go.RowKit Go.Shelf
set_option linter.unusedVariables false

theorem slice_hB (a : Option Addr) (N c Z : Nat) (h : Z ≤ c) (w : World) : (Instr.slice 23 (.slice a N c) none (some (.int .i64 (Z : Int))) none).run Tryd.prog w = .ok (.slice (if c = 0 then a else a.map (·.add 0)) Z c) w := by
  rw [run_slice_h (P := Tryd.prog) (w := w) (t := 23) (a := a) (len := N) (cap := c) (ht := by kernel_rfl) (kh := .i64) (h := (Z : Int)) (by omega) (by omega)]
  rw [show (sizeOf (Tryd.prog.elem 23)).run Tryd.prog w = .ok 1 w by kernel_rfl]
  simp [Result.andThen, sliced]
theorem own_rdB {w : World} {L L' : List Pc} {a : Option Addr} {m c : Nat} {l : List Int} (H : SL w L) (hp : Pull L (.own 5 1 (.slice a m c) m (bv l)) L') (hl : l.length = m) : RdB w a l :=
  (OwnK.rdB (show OwnK w 0 5 1 (.slice a m c) m (bv l) from H.all _ hp.mem)).2.2
theorem RdB.left {w : World} {a : Option Addr} {l k : List Int} (h : RdB w a (l ++ k)) : RdB w a l := by
  intro i hi
  obtain ⟨b, o, e, g⟩ := h i (by rw [List.length_append]; omega)
  refine ⟨b, o, e, ?_⟩
  rw [g]
  dsimp only
  rw [List.getD_eq_getElem?_getD, List.getD_eq_getElem?_getD, List.getElem?_append_left hi]

theorem own_someB {w : World} {L : List Pc} {a : Option Addr} {m c : Nat} {l : List Int} (H : SL w (.own 5 1 (.slice a m c) m (bv l) :: L)) (h0 : 0 < m) : ∃ g, a = some ⟨g, 0, none⟩ ∧ m ≤ c := by
  have h : OwnK w 0 5 1 (.slice a m c) m (bv l) := H.head
  rcases h.form with ⟨e, h2, _⟩ | ⟨g, cap, e, _, _, hc, _⟩
  · omega
  · cases e
    exact ⟨g, rfl, hc⟩

theorem great_c (g : Gm) (d : Value) (a : Option Addr) (n c : Nat) (w : World) (hd : d = .slice a n c) : Calls Tryd.prog 8 #[gmV g d] w fun e w' => e = .returned (.bool (decide ((1000 : Int) < n))) ∧ Kp no w w' := by
  subst hd
  have H := (SL.start w).alloc (gmC g (.slice a n c)) 25
  unfold gmC at H
  have q := H.cell (o := 8) (.here _ _) rfl
  have hH := Lib.hid H
  clear H
  unfold gmV
  go_enter Tryd.func8, Tryd.ntmps8
  go_wp2_with fail
  go_ret
  exact ⟨rfl, hH.out.kp (.there (.here _ _))⟩

theorem encR_bytes (g : Gm) : ∀ x ∈ (encR g).1, byteK x := by
  unfold encR
  split
  · exact sealI_bytes _
  · intro x hx; cases hx
theorem tabU_no {w V : World} (h : TabU w) (hk : Kp no w V) : TabU V := by
  unfold TabU Lib.TabIs World.var? at *
  cases hg : Program.globalNamed Tryd.prog "internal/strconv.uint64pow10" with
  | none => rw [hg] at h; cases h
  | some g =>
    rw [hg] at h
    simp only [Option.bind_some] at h ⊢
    cases ho : w.heap[g]? with
    | none => rw [ho] at h; cases h
    | some x => rw [hk.at ho (fun h => h)]; rw [ho] at h; exact h
end Go.Proofs.YtilpkfgdlehmpaaDoor
