/- The walk of barrier's Copy. -/
import Derived.Test.YtejgkehcplajhaaBar3
import Derived.Laws.Externs
namespace Go.Proofs.Ytejgkehcplajhaa
open Go.RowKit
set_option linter.unusedVariables false

theorem iset_cloned {w : World} {L : List Pc} {m : Nat} {ps : Int → Bool} {es : Array MapEntry} {clock : Nat} (H : SL w L) (hm : w.heap[m]? = some (.map es clock))
    (h1 : ∀ e ∈ es.toList, e.val = .int .i64 1 ∧ ∃ k, e.key = .int .i64 k) (h2 : ∀ k : Int, ps k = es.toList.any (keyIs k)) : SL (w.alloc (.map es clock)) (iset w.heap.size ps :: L) :=
  H.new ((Kp.refl no w).alloc _) ⟨es, clock, blk_new w _, h1, h2⟩ fun b hb => Nat.le_of_eq hb.symm

section
variable {P : Program} (w : World)
theorem run_tassert_map (t xT k e : TypeId) (v : Value) (h : P.underlying t = some (.map k e)) : (Instr.typeAssert (.iface t v) xT t false).run P w = .ok v w := by
  simp [Instr.typeAssert, run_underlying h, go_sem, Result.andThen]
theorem run_mclone {r : Nat} {es : Array MapEntry} {clock : Nat} (t : TypeId) (hb : w.heap[r]? = some (.map es clock)) :
    (Extern.MapsClone.clone #[.iface t (.map (some r))]).run P w = .ok (.iface t (.map (some w.heap.size))) (w.alloc (.map es clock)) := by
  have e : Extern.MapsClone.clone #[.iface t (.map (some r))] = (getObj r >>= fun o => match o with
      | .map entries clock => (newObj (.map entries clock) >>= fun n => pure (.iface t (.map (some n))))
      | _ => stuck "maps.clone: a map expected") := rfl
  rw [e]
  simp [MapKept.run_getObj_map hb, Result.andThen, go_sem]
end

theorem mapsClone_c (b : Nat) (es : Array MapEntry) (clock : Nat) (w : World) (hb : w.heap[b]? = some (.map es clock)) :
    Calls Try.prog 30 #[.map (some b)] w fun e w' => e = .returned (.map (some w.heap.size)) ∧ w' = w.alloc (.map es clock) := by
  have hq := fun w => run_eql_map_nil (P := Try.prog) w 63 _ _ (some b) Try.underlying63
  go_enter Try.func30, Try.ntmps30
  go_wp2_with fail
  rw [run_callFunc_extern Try.func34 (by kernel_rfl) (by kernel_rfl) (by kernel_rfl) (e := Extern.MapsClone.clone) (by kernel_rfl), run_mclone w 63 hb]
  simp only [Result.andThen]
  rw [Oper.upon_value]
  go_wp2_with fail
  rw [run_tassert_map _ 63 20 _ _ _ Try.underlying63]
  simp only [Result.andThen]
  rw [Oper.upon_value]
  go_wp2_with fail
  go_ret
  exact ⟨rfl, rfl⟩

theorem copy_c (p len c m : Nat) (a : Option Addr) (fr f n : Int) (ps : Int → Bool) (hlen : 1 ≤ len) (w : World) {L : List Pc}
    (H : SL w (barB p (.slice a len c) fr f n m :: iset m ps :: L)) :
    Calls Try.prog 18 #[.pointer (some ⟨p, 0, none⟩)] w fun e w' => ∃ p' m', e = .returned (.pointer (some ⟨p', 0, none⟩)) ∧
      SL w' (barB p' (.slice a len c) fr f n m' :: iset m' ps :: barB p (.slice a len c) fr f n m :: iset m ps :: L) := by
  have hH := Lib.hid H
  unfold barB at H
  (have C := H.cells; dsimp only [cellsOf, Pc.cells, cellsFrom, iset, Nat.zero_add, Nat.reduceAdd] at C; (try simp only [true_and, and_true] at C))
  have hno := Lib.hid (none_c p len c a w C.1.1 hlen)
  have hpl := cell_lt C.1.1
  have hne : ¬ w.heap.size = p := by omega
  have hne2 : ¬ p = w.heap.size := by omega
  clear H
  go_enter Try.func18, Try.ntmps18
  go_wp2_with fail
  refine hno.out.mono ?_
  rintro e w' ⟨rfl, rfl⟩
  go_wp2_with fail
  have H1 := hH.out.alloc [.slice a len c, .int .i64 fr, .int .i64 f, .int .i64 n, .map (some m)] 65
  obtain ⟨es, clock, hm, he1, he2⟩ := H1.iset (by first | exact .here _ _ | exact .there (.here _ _) | exact .there (.there (.here _ _)) | exact .there (.there (.there (.here _ _))) | exact .there (.there (.there (.there (.here _ _)))) | exact .there (.there (.there (.there (.there (.here _ _))))) | exact .there (.there (.there (.there (.there (.there (.here _ _)))))) | exact .there (.there (.there (.there (.there (.there (.there (.here _ _))))))) | exact .there (.there (.there (.there (.there (.there (.there (.there (.here _ _)))))))) | exact .there (.there (.there (.there (.there (.there (.there (.there (.there (.here _ _))))))))) | exact .there (.there (.there (.there (.there (.there (.there (.there (.there (.there (.here _ _)))))))))) | exact .there (.there (.there (.there (.there (.there (.there (.there (.there (.there (.there (.here _ _))))))))))) | exact .there (.there (.there (.there (.there (.there (.there (.there (.there (.there (.there (.there (.here _ _)))))))))))) | exact .there (.there (.there (.there (.there (.there (.there (.there (.there (.there (.there (.there (.there (.here _ _))))))))))))))
  have H2 := iset_cloned H1 hm he1 he2
  have hcl := Lib.hid (mapsClone_c m es clock _ hm)
  generalize w.heap.size = q at *
  generalize w.alloc (.cells [Value.slice a len c, .int .i64 fr, .int .i64 f, .int .i64 n, .map (some m)].toArray 65) = w1 at *
  have hm' := Lib.hid hm
  clear hm C hno H1 he1 he2
  refine hcl.out.mono ?_
  rintro e w2 ⟨rfl, rfl⟩
  have H := H2.pull (.there (.here _ _))
  generalize w1.alloc (.map es clock) = w2 at *
  generalize w1.heap.size = m' at *
  (have C := H.cells; dsimp only [cellsOf, Pc.cells, cellsFrom, iset, Nat.zero_add, Nat.reduceAdd] at C; (try simp only [true_and, and_true] at C))
  have H3 := Lib.hid (H.setCell 4 (.map (some m')))
  clear H2 H hH hcl hm'
  go_wp2_with fail
  go_ret
  refine ⟨q, m', rfl, ?_⟩
  have H4 := H3.out
  unfold barB
  exact H4
end Go.Proofs.Ytejgkehcplajhaa
