/- 'mullionlaw25.BarrierGates': whatever slice of integers comes in, the call returns true and writes nothing that was there. No condition. -/
import Derived.Test.YtejgkehcplajhaaRows
import Derived.Test.YtejgkehcplajhaaBase
import Derived.ProofKit
import Derived.OpenShut
import Derived.ShutString
import Derived.ChangeOld
import Derived.Below
namespace Go.Proofs.Ytejgkehcplajhaa.barrierGates
open Go.ChangeShapes Go.WideShapes Go.ChangeAt Go.RowKit
open Go.ChangeMaps (open_string shut_string)
set_option linter.unusedVariables false

theorem own : ownKnob Try.prog.godebug = none := by kernel_rfl
theorem laidOut : laidOutB Try.prog = true := by kernel_rfl

theorem gateGo_no (b : Nat) (bg : Bool) (last f : Int) (w : World) (h0 : w.cell? ⟨b, 0, none⟩ = some (.bool bg)) (h1 : w.cell? ⟨b, 1, none⟩ = some (.int .i64 last))
   (hf : f < 0 ∨ bg = true ∧ f ≤ last) :
    Calls Try.prog 8 #[.pointer (some ⟨b, 0, none⟩), .int .i64 f] w fun e w' => e = .returned (.bool false) ∧ w = w' := by
  by_cases h : f < 0
  · go_enter Try.func8, Try.ntmps8
    go_wp2
    go_ret
    exact ⟨rfl, rfl⟩
  · obtain ⟨rfl, hl⟩ : bg = true ∧ f ≤ last := by rcases hf with h' | h' <;> first | exact h' | omega
    go_enter Try.func8, Try.ntmps8
    go_wp2
    go_ret
    exact ⟨rfl, rfl⟩

theorem gateGo_yes (b : Nat) (bg : Bool) (last f : Int) (w : World) (h0 : w.cell? ⟨b, 0, none⟩ = some (.bool bg)) (h1 : w.cell? ⟨b, 1, none⟩ = some (.int .i64 last))
   (f0 : w.frozen? ⟨b, 0, none⟩ = false) (f1 : w.frozen? ⟨b, 1, none⟩ = false)
   (hf : 0 ≤ f) (hf : bg = true → last < f) :
    Calls Try.prog 8 #[.pointer (some ⟨b, 0, none⟩), .int .i64 f] w fun e w' => e = .returned (.bool true) ∧ ((w.setCell ⟨b, 0, none⟩ (.bool true)).setCell ⟨b, 1, none⟩ (.int .i64 f)) = w' := by
  cases bg
  · go_enter Try.func8, Try.ntmps8
    go_wp2
    go_ret
    exact ⟨rfl, rfl⟩
  · have := hf rfl
    go_enter Try.func8, Try.ntmps8
    go_wp2
    go_ret
    exact ⟨rfl, rfl⟩

theorem gateLast (b : Nat) (bg : Bool) (l last : Int) (w : World) (h0 : w.cell? ⟨b, 0, none⟩ = some (.bool bg)) (h1 : w.cell? ⟨b, 1, none⟩ = some (.int .i64 last))
  (h : l = if bg then last else -1) :
    Calls Try.prog 9 #[.pointer (some ⟨b, 0, none⟩)] w fun e w' => e = .returned (.int .i64 l) ∧ w = w' := by
  subst h
  cases bg
  · go_enter Try.func9, Try.ntmps9
    go_wp2
    go_ret
    exact ⟨rfl, rfl⟩
  · go_enter Try.func9, Try.ntmps9
    go_wp2
    go_ret
    exact ⟨rfl, rfl⟩

set_option maxHeartbeats 1000000 in
theorem gates_any (ab ao len cap : Nat) (zs : List Int) (w : World) (hl : len ≤ cap) (hm : cap ≤ maxLen) 
   (hc : ∀ i, i < len → (w.cell? ⟨ab, ao + i, none⟩ = some (.int .i64 (zs.getD i 0)) ∧ ab < w.heap.size)) :
    Calls Try.prog 3 #[.slice (some ⟨ab, ao, none⟩) len cap] w fun e w' => e = .returned (.bool true) ∧ Below w.heap.size w w' := by
  by_cases h : 300 < (len : Int)
  · go_enter Try.func3, Try.ntmps3
    go_wp2
    go_ret
    exact ⟨rfl, Below.refl _ _⟩
  · have hc' := Lib.hid hc
    clear hc
    go_enter Try.func3, Try.ntmps3
    go_wp2
    go_loopw [4, 14] (fun l i wr => ∃ (k : Nat) (last : Int) (bg : Bool) (gl : Int), k ≤ len ∧ i = .int .i64 k ∧ l = .int .i64 last ∧ Below w.heap.size w wr ∧
        wr.cell? ⟨w.heap.size, 0, none⟩ = some (.bool bg) ∧ wr.cell? ⟨w.heap.size, 1, none⟩ = some (.int .i64 gl) ∧
        wr.frozen? ⟨w.heap.size, 0, none⟩ = false ∧ wr.frozen? ⟨w.heap.size, 1, none⟩ = false ∧ -1 ≤ last ∧ last = if bg then gl else -1)
      (fun _ i _ => len - (intOf i).toNat)
    case atStart => exact ⟨0, -1, false, 0, Nat.zero_le _, rfl, rfl, (Below.refl _ _).alloc (Nat.le_refl _) _, by simp [go_sem], by simp [go_sem], by simp [go_sem], by simp [go_sem], by omega, rfl⟩
    case round =>
      obtain ⟨k, last, bg, gl, hk, rfl, rfl, hb, c0, c1, f0, f1, hl1, hl2⟩ := hrel
      by_cases hlt : k < len
      · obtain ⟨hx, hbl⟩ := hc'.out k hlt
        have hx0 := hx
        rw [← hb.cell (p := ⟨ab, ao + k, none⟩) hbl] at hx
        generalize zs.getD k 0 = x at hx hx0
        have hl2' := Lib.hid hl2
        clear hl2
        by_cases hg : last < x
        · have hg2 : (decide (last < x)) = true := by simpa using hg
          go_wp2_with fail
          refine (gateGo_yes _ _ _ _ _ c0 c1 f0 f1 (by omega) (by rintro rfl; have := hl2'.out; simp at this; omega)).mono ?_
          rintro e w' ⟨rfl, rfl⟩
          go_wp2_with fail
          refine (gateLast _ true x x _ (by simp [go_sem, c0]) (by simp [go_sem, c1]) (by simp)).mono ?_
          rintro e w' ⟨rfl, rfl⟩
          go_wp2_with fail
          go_roundw
          case rel => 
            exact ⟨k + 1, x, true, x, by omega, by go_num, rfl, (hb.setCell (Nat.le_refl _) _).setCell (Nat.le_refl _) _, by simp [go_sem, c0], by simp [go_sem, c1], by simp [go_sem, f0], by simp [go_sem, f1], by omega, rfl⟩
          case measure => simp [intOf]; omega
        · have hg2 : (decide (last < x)) = false := by simpa using hg
          go_wp2_with fail
          refine (gateGo_no _ bg gl _ _ c0 c1 (by have := hl2'.out; cases bg <;> simp at this ⊢ <;> omega)).mono ?_
          rintro e w' ⟨rfl, rfl⟩
          go_wp2_with fail
          refine (gateLast _ bg last gl _ c0 c1 hl2'.out).mono ?_
          rintro e w' ⟨rfl, rfl⟩
          go_wp2_with fail
          go_roundw
          case rel => 
            exact ⟨k + 1, last, bg, gl, by omega, by go_num, rfl, hb, c0, c1, f0, f1, by omega, hl2'.out⟩
          case measure => simp [intOf]; omega
      · go_wp2
        go_ret
        exact ⟨rfl, hb⟩

theorem gates_nil (a : Option Addr) (cap : Nat) (w : World) :
    Calls Try.prog 3 #[.slice a 0 cap] w fun e w' => e = .returned (.bool true) ∧ Below w.heap.size w w' := by
  go_enter Try.func3, Try.ntmps3
  go_wp2
  go_loop [14] (fun i => i = .int .i64 0) (fun _ => 0)
  case atStart => exact rfl
  case round =>
    obtain rfl := hrel
    go_wp2
    go_ret
    exact ⟨rfl, (Below.refl _ _).alloc (Nat.le_refl _) _⟩

theorem walk (a0 : Option Addr) (len0 cap0 : Nat) (z0 : List Int) (w : World) (w0 : IsRow .i64 w a0 len0 cap0 z0) :
    Calls Try.prog 3 #[.slice a0 len0 cap0] w fun e w' => e = .returned (.bool true) ∧ Below w.heap.size w w' := by
  rcases w0.plain with rfl | ⟨b, o, rfl, hl, hm, hz, hb, hc, hw⟩
  · exact gates_nil a0 cap0 w
  · exact gates_any b o len0 cap0 z0 w hl hm (fun i hi => ⟨hc i (by omega), hb⟩)

/-! ### THE ROW's STEP: WRITTEN OUT: LEAVE IT -/
set_option maxRecDepth 100000 in
theorem lifted (os : Os) (started : os.Started) (H : Type) (enc : TypeId × Value → H) :
    ReturnsInHanded {} Try.checked os 3 .any (Rows.barrierGatesSpec.pre6 enc Try.prog Try.f3 Rows.barrierGatesRow.domain false) (Rows.barrierGatesSpec.post enc Try.prog Try.f3 false true false false) := by
  refine returnsInHanded_of_change (C := Try.checked) own started (by kernel_rfl) Try.func3
    (ChangeSpec.witness6 (enc := enc) (C := Try.checked) false ⟨#[], #[.slice none 0 0], []⟩ 8 (by kernel_rfl) (by kernel_rfl) (by kernel_rfl) (by kernel_rfl)) ?_
  intro W base args ds gs before hval0 hW hcnd _
  have hval : ∀ (j : Nat) t v, Try.f3.params[j]? = some t → args[j]? = some v → Value.okWide Try.prog W .any base t v := hval0
  have hW' := hW
  obtain ⟨p, q, hA0, hV, rfl, hfz, hnd⟩ := hW
  have hA : DataW.TrodAll enc Try.prog W 0 (fun _ => true) true Try.f3.params.toList args.toList ds p := hA0
  rw [Try.params3] at hA hval
  obtain ⟨v0, vs0, d0, ds0, p0, q0, hargs, rfl, rfl, h0, r0⟩ := trodAll_cons hA
  obtain ⟨rfl, rfl, rfl⟩ := trodAll_nil r0
  obtain rfl : args = #[v0] := by cases args; simp_all
  obtain ⟨rfl, rfl⟩ := trodVars_none hV
  obtain ⟨a0, len0, cap0, rfl⟩ := okWide_slice Try.underlying22 (hval 0 22 v0 rfl rfl)
  have k0 := h0
  have lt0 : ∀ x ∈ p0, x.block < W.heap.size := by obtain ⟨m, hm⟩ := k0; exact DataW.trod_lt m _ _ _ hm
  obtain ⟨z0, w0⟩ : ∃ zs, IsRow .i64 W a0 len0 cap0 zs := by
    obtain ⟨fuel, hf⟩ := h0
    rcases open_ints Try.underlying22 Try.underlying3 (by kernel_rfl) hf with ⟨hcs, _⟩ | ⟨x, l, c, zs, hcs, _, hl, hm, hz, _, hcell, hwz⟩
    · simp [Value.cells] at hcs
      obtain ⟨rfl, rfl, rfl⟩ := hcs
      exact ⟨[], .inl ⟨rfl, rfl, rfl, rfl⟩⟩
    · simp [Value.cells] at hcs
      obtain ⟨rfl, rfl, rfl⟩ := hcs
      exact ⟨zs, .inr ⟨_, rfl, hl, hm, by simpa using hz, hcell, hwz⟩⟩
  clear hA0 hval0
  refine (walk a0 len0 cap0 z0 W w0).mono fun e W' ⟨he, bel⟩ => ?_
  subst he
  exact ⟨_, rfl, _, _, _, [], _, [], hW', trodAll_mk1 (shut_bool Try.underlying4 _), (trodAll_cons_mk (Below.trod laidOut (by kernel_rfl) (of_decide_eq_true (by kernel_rfl)) k0 bel lt0) trodAll_mk0), rfl, bel.frame _, fun h => by cases h⟩

theorem over : Rows.barrierGatesRow.holds Try.pinned (OpenSpec.ofChange Rows.barrierGatesSpec) :=
  OpenClaim.holds_of_wide 3 Try.f3 rfl rfl rfl rfl rfl rfl rfl ⟨rfl, rfl, rfl, rfl, rfl⟩ rfl rfl rfl rfl rfl (by kernel_rfl) Try.func3 (by kernel_rfl)
    (of_decide_eq_true (by kernel_rfl)) (by unfold Func.isWrapper; first | (rw [if_pos (by decide +kernel)]; kernel_rfl) | (rw [if_neg (by decide +kernel)]; exact ⟨rfl, rfl⟩))
    (fun os started H enc _ => lifted os started H enc)

/-- ████ THE STATEMENT ████ -/
theorem proved : Rows.BarrierGatesSaid := over
#print axioms proved
end Go.Proofs.Ytejgkehcplajhaa.barrierGates
