/- The walk of do: no kind. -/
import Derived.Test.YtnkahibddhchlaaRfO
namespace Go.Proofs.Ytnkahibddhchlaa
open Go.RowKit Go.Shelf
set_option linter.unusedVariables false

section
variable {p y : Nat} {s : NSt} {L : List Pc} {w : World}
set_option maxRecDepth 100000 in
set_option maxHeartbeats 8000000 in
theorem do_none (H : Bth p s y s L w) (x : OpI) (h0 : x.kind ≠ 0) (h1 : x.kind ≠ 1) (h2 : x.kind ≠ 2) (h3 : x.kind ≠ 3) (h4 : x.kind ≠ 4) (h5 : x.kind ≠ 5) (h6 : x.kind ≠ 6) (h7 : x.kind ≠ 7) (h8 : x.kind ≠ 8) (h9 : x.kind ≠ 9) :
    Calls Try.prog 23 #[ptrV p, ptrV y, .agg (opV x).toArray] w fun e w' => ∃ p', e = .returned (.tuple #[ptrV p', .bool true]) ∧ Bth p' (s.play x) y (s.play x) L w' := by
  have e : s.play x = s := by unfold NSt.play; simp [h0, h1, h2, h3, h4, h5]
  rw [e]
  have hH := Lib.hid (H.alloc (opV x) 46)
  have hfin : Hid (∀ V, Bth p s y s (.blk w.heap.size (opV x) 46 :: L) V → Bth p s y s L V) := Lib.hid fun V h => h.re (.drop (.same _))
  have b0 : (x.kind == 0) = false := by simpa using h0
  have b1 : (x.kind == 1) = false := by simpa using h1
  have b2 : (x.kind == 2) = false := by simpa using h2
  have b3 : (x.kind == 3) = false := by simpa using h3
  have b4 : (x.kind == 4) = false := by simpa using h4
  have b5 : (x.kind == 5) = false := by simpa using h5
  have b6 : (x.kind == 6) = false := by simpa using h6
  have b7 : (x.kind == 7) = false := by simpa using h7
  have b8 : (x.kind == 8) = false := by simpa using h8
  have b9 : (x.kind == 9) = false := by simpa using h9
  clear H e h0 h1 h2 h3 h4 h5 h6 h7 h8 h9
  unfold opV inV at *
  obtain ⟨kind, fr, dst, at', bit, bb⟩ := x
  dsimp only at *
  unfold ptrV at *
  go_enter Try.func23, Try.ntmps23
  go_upto_region 1 with (fail)
  generalize w.alloc (.cells [Value.int .i64 kind, .int .i64 fr, .int .i64 dst, .int .i64 at', .int .i64 bit, .slice bb.g bb.bs.length bb.c].toArray 46) = w1 at *
  generalize w.heap.size = ob at *
  have c0 := hH.out.tail.cell (b := ob) (o := 0) (.here _ _) rfl
  have hf2 := Lib.hid (hfin.out _ hH.out)
  clear hH hfin
  go_wp2_with fail
  go_ret2
  exact ⟨p, rfl, hf2.out⟩
end
end Go.Proofs.Ytnkahibddhchlaa
