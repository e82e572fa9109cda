/- The walks of mullionlaw04.alive. -/
import Derived.Test.YtnnopakfnenjfaaDoorSealD
import Derived.Lib.SlBytesConst
namespace Go.Proofs.YtnnopakfnenjfaaDoor
open Go.RowKit
set_option linter.unusedVariables false

theorem sum_num (bs : List (BitVec 8)) (a : Option Addr) (n cap : Nat) (z : Int) (w : World) (hl : bs.length = n) (hn : n ≤ 9223372036854775807) (h : RdB w a bs) (hz : U (sumOf bs) = z) :
    Calls Tryd.prog 6 #[.slice a n cap] w fun e w' => e = .returned (.int .u32 z) ∧ w = w' := by
  subst hl hz
  exact sum_c a bs.length cap (cOf bs) w hn h

theorem alive_c (w : World) : Calls Tryd.prog 12 #[] w fun e w' => e = .returned (.bool true) ∧ Kp no w w' := by
  have kc := fun (w : World) (C : Array Value) (n c : Nat) => Lib.run_convert_bytes_const (P := Tryd.prog) w 22 5 C n c Tryd.underlying22 Tryd.underlying5
  have kc2 : ∀ (w : World) (o : Obj) (C : Array Value) (n c : Nat), (convert 22 22 (.slice (some ⟨w.heap.size + 1, 0, none⟩) n c)).run Tryd.prog ((w.alloc o).alloc (.cells C 5)) = .ok (.slice (some ⟨w.heap.size + 1, 0, none⟩) n c) ((w.alloc o).alloc (.cells C 5 (C.size, C.size + 1))) := fun w o C n c => by
    have h := kc (w.alloc o) C n c
    rwa [World.size_alloc] at h
  go_enter Tryd.func12, Tryd.ntmps12
  go_wp2_with fail
  refine (sum_num [] none 0 0 0 _ rfl (by omega) (fun i hi => by simp at hi) (by decide +kernel)).mono ?_
  rintro e w' ⟨rfl, rfl⟩
  go_wp2_with fail
  refine (sum_num [97#8] (some ⟨w.heap.size, 0, none⟩) 1 1 3904355907 _ rfl (by omega) (RdB.of_rd (rd_new' w 5 (bv [97#8]) (1, 2))) (by decide +kernel)).mono ?_
  rintro e w' ⟨rfl, rfl⟩
  go_wp2_with fail
  refine (sum_num [49#8, 50#8, 51#8, 52#8, 53#8, 54#8, 55#8, 56#8, 57#8] (some ⟨w.heap.size + 1, 0, none⟩) 9 9 3421780262 _ rfl (by omega) (RdB.of_rd (by have h := rd_new' (w.alloc (.cells (bv [97#8]).toArray 5 (1, 2))) 5 (bv [49#8, 50#8, 51#8, 52#8, 53#8, 54#8, 55#8, 56#8, 57#8]) (9, 10); rw [World.size_alloc] at h; exact h)) (by decide +kernel)).mono ?_
  rintro e w' ⟨rfl, rfl⟩
  go_wp2_with fail
  go_ret
  exact ⟨rfl, ((Kp.refl _ _).alloc _).alloc _⟩
end Go.Proofs.YtnnopakfnenjfaaDoor
