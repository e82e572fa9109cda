/- The walk of six: all nodes. -/
import Derived.Test.YtaibdcglhibglaaOnceL
namespace Go.Proofs.Ytaibdcglhibglaa
open Go.RowKit
set_option linter.unusedVariables false
set_option linter.unusedSimpArgs false

theorem elemP : ElemK Try.prog 24 35 1 (.pointer none) 8 := ⟨by kernel_rfl, by kernel_rfl, rfl, by decide⟩
def pv (p : Nat → Nat) (k : Nat) : List Value := (List.range k).map fun i => .pointer (some ⟨p i, 0, none⟩)
theorem pv_length (p : Nat → Nat) (k : Nat) : (pv p k).length = k := by simp [pv]
theorem pv_get (p : Nat → Nat) {k i : Nat} (h : i < k) : (pv p k).getD i undef = .pointer (some ⟨p i, 0, none⟩) := by simp [pv, h]
theorem range_congr {α : Type} {f h : Nat → α} {k : Nat} (e : ∀ i, i < k → f i = h i) : (List.range k).map f = (List.range k).map h := List.map_congr_left fun i hi => e i (List.mem_range.1 hi)
theorem pv_snoc (p : Nat → Nat) (k q : Nat) : pv (upd p k q) (k + 1) = pv p k ++ [.pointer (some ⟨q, 0, none⟩)] := by
  unfold pv
  rw [List.range_succ, List.map_append]
  congr 1
  · exact range_congr fun i hi => by rw [upd_other _ _ (by omega)]
  · simp [upd_same]
theorem all_snoc {k q : Nat} {p : Nat → Nat} {g : Nat → Pl} {x : Nat → St} {T : List Pc} {w : World} {a : Option Addr} {c b : Nat} (H : SL w (MS q a c b (x k) (ALLN k p g x T))) : SL w (ALLN (k + 1) (upd p k q) (upd g k (a, c, b)) x T) := by
  have e : ALLN (k + 1) (upd p k q) (upd g k (a, c, b)) x T = (List.range k).flatMap (ONE p g x) ++ (MS q a c b (x k) [] ++ T) := by
    unfold ALLN
    rw [List.range_succ, List.flatMap_append, List.append_assoc]
    congr 1
    · rw [List.flatMap_def, List.flatMap_def]
      congr 1
      exact range_congr fun i hi => by unfold ONE; rw [upd_other _ _ (by omega), upd_other _ _ (by omega)]
    · simp [ONE, upd_same]
  rw [e]
  have H : SL w (MS q a c b (x k) [] ++ ((List.range k).flatMap (ONE p g x) ++ T)) := H
  exact H.swap

set_option maxHeartbeats 4000000 in
theorem six_c {w : World} {L : List Pc} (H : SL w L) : Calls Try.prog 9 #[] w fun r w' => ∃ mb mc p g, r = .returned (.slice (some ⟨mb, 0, none⟩) 6 mc) ∧
    SL w' (.own 35 1 (.slice (some ⟨mb, 0, none⟩) 6 mc) 6 (pv p 6) :: ALLN 6 p g (fun i => St0 i 5 6) L) := by
  have hH := Lib.hid (H.pure (q := .own 35 1 (.slice none 0 0) 0 []) (OwnK.nil _ _ _ _) (fun b h => by cases h))
  clear H
  go_enter Try.func9, Try.ntmps9
  go_wp2_with fail
  go_loopw [2, 1] (fun i t V => ∃ (k : Nat) (aa : Option Addr) (cc : Nat) (p : Nat → Nat) (g : Nat → Pl), k ≤ 6 ∧ i = .int .i64 k ∧ t = .slice aa k cc ∧ SL V (.own 35 1 (.slice aa k cc) k (pv p k) :: ALLN k p g (fun i => St0 i 5 6) L)) (fun i _ _ => 6 - (intOf i).toNat)
  case atStart => exact ⟨0, none, 0, fun _ => 0, fun _ => (none, 0, 0), by omega, rfl, rfl, hH.out⟩
  case round =>
    clear hH
    obtain ⟨k, aa, cc, p, g, hk, rfl, rfl, H⟩ := hrel
    by_cases hk6 : k < 6
    · have c := Lib.hid (newS_c k 5 6 H (by omega) (by omega) (by omega) (by omega) (by omega) (by omega))
      clear H
      go_wp2_with fail
      refine c.out.mono ?_
      rintro r W1 ⟨q, a, c1, b, rfl, H⟩
      have H1 := H.re (L' := .own 35 1 (.slice aa k cc) k (pv p k) :: MS q a c1 b (St0 k 5 6) (ALLN k p g (fun i => St0 i 5 6) L)) (.step (.there (.there (.there (.here _ _)))) (.same _))
      have hH := Lib.hid H1
      clear H H1 c
      go_wp2_with (
        at_builtin
        refine sl_app (hH.out.alloc [.pointer (some ⟨q, 0, none⟩)] 35) rfl _ _ _ rfl elemP _ rfl (.there (.here _ _)) [.pointer (some ⟨q, 0, none⟩)] rfl rfl (rd_newK _ _ _) (by simp [Value.oneCell']) (by simp only [maxLen]; omega) (by omega) (fun h => by cases h) ?_
        intro v' w3 H3 hnil
        obtain ⟨a', c', rfl, -⟩ := OwnK.slice H3.head
        have H4 := Lib.hid (H3.re (.step (.here _ _) (.drop (.same _))))
        clear H3 hnil)
      go_roundw
      case rel =>
        refine ⟨k + 1, a', c', upd p k q, upd g k (a, c1, b), by omega, by go_num, rfl, ?_⟩
        rw [pv_snoc]
        have h := H4.out
        refine h.perm (List.Perm.refl _) |>.re (.step (.here _ _) (.same _)) |> fun h => ?_
        have h1 : SL w3 (MS q a c1 b (St0 k 5 6) (ALLN k p g (fun i => St0 i 5 6) (.own 35 1 (.slice a' (k + 1) c') (k + 1) (pv p k ++ [.pointer (some ⟨q, 0, none⟩)]) :: L))) := by
          refine h.perm ?_
          have e := List.perm_middle (a := Pc.own 35 1 (.slice a' (k + 1) c') (k + 1) (pv p k ++ [.pointer (some ⟨q, 0, none⟩)])) (l₁ := MS q a c1 b (St0 k 5 6) [] ++ (List.range k).flatMap (ONE p g fun i => St0 i 5 6)) (l₂ := L)
          exact e.symm
        exact all_out (all_snoc (x := fun i => St0 i 5 6) h1)
      case measure => (simp [intOf]; try omega)
    · obtain rfl : k = 6 := by omega
      obtain ⟨mb, e⟩ : ∃ mb, aa = some ⟨mb, 0, none⟩ := by
        rcases OwnK.form (show OwnK _ 0 35 1 (.slice aa 6 cc) 6 (pv p 6) from H.head) with ⟨h, _⟩ | ⟨g0, cap, h, _⟩
        · cases h
        · cases h; exact ⟨g0, rfl⟩
      subst e
      have hH := Lib.hid H
      clear H hk6
      go_wp2_with fail
      go_ret
      exact ⟨mb, cc, p, g, rfl, hH.out⟩
end Go.Proofs.Ytaibdcglhibglaa
