/- maps.Clone of a set of numbers (turned from w25/Bar5.lean). -/
import Derived.Test.YtaibdcglhibglaaISet
import Derived.Test.YtaibdcglhibglaaProg
import Derived.Laws.Externs
namespace Go.Proofs.Ytaibdcglhibglaa
open Go.RowKit
set_option linter.unusedVariables false

theorem iset_cloned {w : World} {L : List Pc} {m : Nat} {ps : Int → Bool} {es : Array MapEntry} {clock : Nat} (H : SL w L) (hm : w.heap[m]? = some (.map es clock))
    (h1 : ∀ e ∈ es.toList, e.val = .int .i64 1 ∧ ∃ k, e.key = .int .i64 k) (h2 : ∀ k : Int, ps k = es.toList.any (keyIs k)) : SL (w.alloc (.map es clock)) (iset w.heap.size ps :: L) :=
  H.new ((Kp.refl no w).alloc _) ⟨es, clock, blk_new w _, h1, h2⟩ fun b hb => Nat.le_of_eq hb.symm

section
variable {P : Program} (w : World)
theorem run_tassert_map (t xT k e : TypeId) (v : Value) (h : P.underlying t = some (.map k e)) : (Instr.typeAssert (.iface t v) xT t false).run P w = .ok v w := by
  simp [Instr.typeAssert, run_underlying h, go_sem, Result.andThen]
theorem run_mclone {r : Nat} {es : Array MapEntry} {clock : Nat} (t : TypeId) (hb : w.heap[r]? = some (.map es clock)) :
    (Extern.MapsClone.clone #[.iface t (.map (some r))]).run P w = .ok (.iface t (.map (some w.heap.size))) (w.alloc (.map es clock)) := by
  have e : Extern.MapsClone.clone #[.iface t (.map (some r))] = (getObj r >>= fun o => match o with
      | .map entries clock => (newObj (.map entries clock) >>= fun n => pure (.iface t (.map (some n))))
      | _ => stuck "maps.clone: a map expected") := rfl
  rw [e]
  simp [MapKept.run_getObj_map hb, Result.andThen, go_sem]
end

theorem mapsClone_c (b : Nat) (es : Array MapEntry) (clock : Nat) (w : World) (hb : w.heap[b]? = some (.map es clock)) :
    Calls Try.prog 49 #[.map (some b)] w fun e w' => e = .returned (.map (some w.heap.size)) ∧ w' = w.alloc (.map es clock) := by
  have hq := fun w => run_eql_map_nil (P := Try.prog) w 72 _ _ (some b) Try.underlying72
  go_enter Try.func49, Try.ntmps49
  go_wp2_with fail
  rw [run_callFunc_extern Try.func56 (by kernel_rfl) (by kernel_rfl) (by kernel_rfl) (e := Extern.MapsClone.clone) (by kernel_rfl), run_mclone w 72 hb]
  simp only [Result.andThen]
  rw [Oper.upon_value]
  go_wp2_with fail
  rw [run_tassert_map _ 72 20 _ _ _ Try.underlying72]
  simp only [Result.andThen]
  rw [Oper.upon_value]
  go_wp2_with fail
  go_ret
  exact ⟨rfl, rfl⟩
end Go.Proofs.Ytaibdcglhibglaa
