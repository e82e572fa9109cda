/- mullionref18.May. (Printed by genmay.py.) -/
import Derived.Test.YtilpkfgdlehmpaaDoorChk
namespace Go.Proofs.YtilpkfgdlehmpaaDoor
open Go.RowKit Go.Shelf
set_option linter.unusedVariables false

theorem node_c (v : Int) (w : World) (b : Bool) (hb : decide (nodeK v) = b) : Calls Tryd.prog 35 #[.int .i64 v] w fun e w' => e = .returned (.bool b) ∧ w = w' := by
  by_cases h0 : 0 ≤ v
  · by_cases h1 : v ≤ 63
    · obtain rfl : b = true := by rw [← hb]; exact decide_eq_true ⟨h0, h1⟩
      clear hb
      go_enter Tryd.func35, Tryd.ntmps35
      go_wp2_with fail
      go_ret
      first | exact ⟨rfl, rfl⟩ | rfl | trivial
    · obtain rfl : b = false := by rw [← hb]; exact decide_eq_false fun h => h1 h.2
      clear hb
      go_enter Tryd.func35, Tryd.ntmps35
      go_wp2_with fail
      go_ret
      first | exact ⟨rfl, rfl⟩ | rfl | trivial
  · obtain rfl : b = false := by rw [← hb]; exact decide_eq_false fun h => h0 h.1
    clear hb
    go_enter Tryd.func35, Tryd.ntmps35
    go_wp2_with fail
    go_ret
    first | exact ⟨rfl, rfl⟩ | rfl | trivial

set_option maxRecDepth 100000 in
set_option maxHeartbeats 8000000 in
theorem may_c (g : Gm) (a : Option Addr) (c : Nat) {L : List Pc} {w : World} (H : SL w L) (M : Bool) (hM : decide (mayK g) = M) :
    Calls Tryd.prog 12 #[gmV g (.slice a g.data.length c)] w fun e w' => e = .returned (.bool M) ∧ SL w' L := by
  have hn := Lib.hid (fun v w b h => node_c v w b h)
  have hH := Lib.hid (H.alloc (gmC g (.slice a g.data.length c)) 25)
  have hyes : Hid (mayK g → M = true) := Lib.hid fun h => by rw [← hM]; simpa using h
  have hno : Hid (¬ mayK g → M = false) := Lib.hid fun h => by rw [← hM]; simpa using h
  clear hM H
  obtain ⟨kind, fr, dst, n, by1, seq, ack, mask, data⟩ := g
  obtain ⟨m, hd⟩ : ∃ m, data.length = m := ⟨_, rfl⟩
  have hm0 : Hid (m = 0 ↔ data = []) := Lib.hid (by rw [← hd]; exact List.length_eq_zero_iff)
  have hd' := Lib.hid hd
  dsimp only at hH ⊢
  rw [hd] at hH ⊢
  clear hd
  simp only [gmV, gmC] at *
  have hmay : Hid (mayK ⟨kind, fr, dst, n, by1, seq, ack, mask, data⟩ ↔ (nodeK fr ∧ nodeK dst ∧ nodeK by1 ∧ fr ≠ dst ∧ ((kind = 1 ∧ seq = 0 ∧ ack = 0 ∧ mask = 0 ∧ m = 0) ∨ (kind = 2 ∧ seq < 4611686018427387904 ∧ ack ≤ 4611686018427387904 ∧ mask < 9223372036854775808 ∧ m ≤ 900) ∨ (kind = 3 ∧ seq = 0 ∧ ack ≤ 4611686018427387904 ∧ mask < 9223372036854775808 ∧ m = 0)))) := Lib.hid (by
    unfold mayK formK
    dsimp only
    rw [hm0.out, hd'.out])
  rw [hmay.out] at hyes hno
  clear hmay hm0 hd'
  by_cases h : ¬ nodeK fr
  · have hE := Lib.hid (hno.out fun hh => h hh.1)
    have hfr := Lib.hid h
    clear h hyes hno
    have C := hH.out
    have q0 := C.cell (o := 0) (.here _ _) rfl
    have q1 := C.cell (o := 1) (.here _ _) rfl
    have q2 := C.cell (o := 2) (.here _ _) rfl
    have q4 := C.cell (o := 4) (.here _ _) rfl
    have q5 := C.cell (o := 5) (.here _ _) rfl
    have q6 := C.cell (o := 6) (.here _ _) rfl
    have q7 := C.cell (o := 7) (.here _ _) rfl
    have q8 := C.cell (o := 8) (.here _ _) rfl
    clear C
    go_enter Tryd.func12, Tryd.ntmps12
    go_wp2_with fail
    generalize w.alloc (.cells [Value.int .i64 fr, .int .i64 dst, .int .i64 kind, .int .u64 n, .int .i64 by1, .int .u64 seq, .int .u64 ack, .int .u64 mask, .slice a m c].toArray 25) = w1 at *
    refine (hn.out fr _ false (by simpa using hfr.out)).mono ?_
    rintro e w2 ⟨rfl, rfl⟩
    go_wp2_with fail
    go_ret
    exact ⟨by rw [hE.out]; rfl, hH.out.tail⟩
  have hfr := Lib.hid (Classical.not_not.1 h)
  clear h
  by_cases h : ¬ nodeK dst
  · have hE := Lib.hid (hno.out fun hh => h hh.2.1)
    have hdst := Lib.hid h
    clear h hyes hno
    have C := hH.out
    have q0 := C.cell (o := 0) (.here _ _) rfl
    have q1 := C.cell (o := 1) (.here _ _) rfl
    have q2 := C.cell (o := 2) (.here _ _) rfl
    have q4 := C.cell (o := 4) (.here _ _) rfl
    have q5 := C.cell (o := 5) (.here _ _) rfl
    have q6 := C.cell (o := 6) (.here _ _) rfl
    have q7 := C.cell (o := 7) (.here _ _) rfl
    have q8 := C.cell (o := 8) (.here _ _) rfl
    clear C
    go_enter Tryd.func12, Tryd.ntmps12
    go_wp2_with fail
    generalize w.alloc (.cells [Value.int .i64 fr, .int .i64 dst, .int .i64 kind, .int .u64 n, .int .i64 by1, .int .u64 seq, .int .u64 ack, .int .u64 mask, .slice a m c].toArray 25) = w1 at *
    refine (hn.out fr _ true (by simpa using hfr.out)).mono ?_
    rintro e w2 ⟨rfl, rfl⟩
    go_wp2_with fail
    refine (hn.out dst _ false (by simpa using hdst.out)).mono ?_
    rintro e w2 ⟨rfl, rfl⟩
    go_wp2_with fail
    go_ret
    exact ⟨by rw [hE.out]; rfl, hH.out.tail⟩
  have hdst := Lib.hid (Classical.not_not.1 h)
  clear h
  by_cases h : ¬ nodeK by1
  · have hE := Lib.hid (hno.out fun hh => h hh.2.2.1)
    have hby1 := Lib.hid h
    clear h hyes hno
    have C := hH.out
    have q0 := C.cell (o := 0) (.here _ _) rfl
    have q1 := C.cell (o := 1) (.here _ _) rfl
    have q2 := C.cell (o := 2) (.here _ _) rfl
    have q4 := C.cell (o := 4) (.here _ _) rfl
    have q5 := C.cell (o := 5) (.here _ _) rfl
    have q6 := C.cell (o := 6) (.here _ _) rfl
    have q7 := C.cell (o := 7) (.here _ _) rfl
    have q8 := C.cell (o := 8) (.here _ _) rfl
    clear C
    go_enter Tryd.func12, Tryd.ntmps12
    go_wp2_with fail
    generalize w.alloc (.cells [Value.int .i64 fr, .int .i64 dst, .int .i64 kind, .int .u64 n, .int .i64 by1, .int .u64 seq, .int .u64 ack, .int .u64 mask, .slice a m c].toArray 25) = w1 at *
    refine (hn.out fr _ true (by simpa using hfr.out)).mono ?_
    rintro e w2 ⟨rfl, rfl⟩
    go_wp2_with fail
    refine (hn.out dst _ true (by simpa using hdst.out)).mono ?_
    rintro e w2 ⟨rfl, rfl⟩
    go_wp2_with fail
    refine (hn.out by1 _ false (by simpa using hby1.out)).mono ?_
    rintro e w2 ⟨rfl, rfl⟩
    go_wp2_with fail
    go_ret
    exact ⟨by rw [hE.out]; rfl, hH.out.tail⟩
  have hby1 := Lib.hid (Classical.not_not.1 h)
  clear h
  by_cases h : fr = dst
  · have hE := Lib.hid (hno.out fun hh => hh.2.2.2.1 h)
    have hb : (fr == dst) = true := by simpa using h
    clear h hyes hno
    have C := hH.out
    have q0 := C.cell (o := 0) (.here _ _) rfl
    have q1 := C.cell (o := 1) (.here _ _) rfl
    have q2 := C.cell (o := 2) (.here _ _) rfl
    have q4 := C.cell (o := 4) (.here _ _) rfl
    have q5 := C.cell (o := 5) (.here _ _) rfl
    have q6 := C.cell (o := 6) (.here _ _) rfl
    have q7 := C.cell (o := 7) (.here _ _) rfl
    have q8 := C.cell (o := 8) (.here _ _) rfl
    clear C
    go_enter Tryd.func12, Tryd.ntmps12
    go_wp2_with fail
    generalize w.alloc (.cells [Value.int .i64 fr, .int .i64 dst, .int .i64 kind, .int .u64 n, .int .i64 by1, .int .u64 seq, .int .u64 ack, .int .u64 mask, .slice a m c].toArray 25) = w1 at *
    refine (hn.out fr _ true (by simpa using hfr.out)).mono ?_
    rintro e w2 ⟨rfl, rfl⟩
    go_wp2_with fail
    refine (hn.out dst _ true (by simpa using hdst.out)).mono ?_
    rintro e w2 ⟨rfl, rfl⟩
    go_wp2_with fail
    refine (hn.out by1 _ true (by simpa using hby1.out)).mono ?_
    rintro e w2 ⟨rfl, rfl⟩
    go_wp2_with fail
    go_ret
    exact ⟨by rw [hE.out]; rfl, hH.out.tail⟩
  have hb : (fr == dst) = false := by simpa using h
  have hfd := Lib.hid h
  clear h
  by_cases hk : kind = 1
  · have hk1 : (kind == 1) = true := by simp; omega
    have hk' := Lib.hid hk
    clear hk
    by_cases h : ¬ (seq = 0)
    · have hE := Lib.hid (hno.out fun hh => by
        have h1 := hh.2.2.2.2
        have h2 := hk'.out
        omega)
      have hx := Lib.hid h
      clear h hyes hno
      have hb0 : (seq == 0) = false := by have := hx.out; simp; omega
      clear hx
      have C := hH.out
      have q0 := C.cell (o := 0) (.here _ _) rfl
      have q1 := C.cell (o := 1) (.here _ _) rfl
      have q2 := C.cell (o := 2) (.here _ _) rfl
      have q4 := C.cell (o := 4) (.here _ _) rfl
      have q5 := C.cell (o := 5) (.here _ _) rfl
      have q6 := C.cell (o := 6) (.here _ _) rfl
      have q7 := C.cell (o := 7) (.here _ _) rfl
      have q8 := C.cell (o := 8) (.here _ _) rfl
      clear C
      go_enter Tryd.func12, Tryd.ntmps12
      go_wp2_with fail
      generalize w.alloc (.cells [Value.int .i64 fr, .int .i64 dst, .int .i64 kind, .int .u64 n, .int .i64 by1, .int .u64 seq, .int .u64 ack, .int .u64 mask, .slice a m c].toArray 25) = w1 at *
      refine (hn.out fr _ true (by simpa using hfr.out)).mono ?_
      rintro e w2 ⟨rfl, rfl⟩
      go_wp2_with fail
      refine (hn.out dst _ true (by simpa using hdst.out)).mono ?_
      rintro e w2 ⟨rfl, rfl⟩
      go_wp2_with fail
      refine (hn.out by1 _ true (by simpa using hby1.out)).mono ?_
      rintro e w2 ⟨rfl, rfl⟩
      go_wp2_with fail
      go_ret
      exact ⟨by rw [hE.out]; rfl, hH.out.tail⟩
    have hx0 := Lib.hid (Classical.not_not.1 h)
    have hb0 : (seq == 0) = true := by have := hx0.out; simp; omega
    clear h
    by_cases h : ¬ (ack = 0)
    · have hE := Lib.hid (hno.out fun hh => by
        have h1 := hh.2.2.2.2
        have h2 := hk'.out
        omega)
      have hx := Lib.hid h
      clear h hyes hno
      have hb1 : (ack == 0) = false := by have := hx.out; simp; omega
      clear hx
      have C := hH.out
      have q0 := C.cell (o := 0) (.here _ _) rfl
      have q1 := C.cell (o := 1) (.here _ _) rfl
      have q2 := C.cell (o := 2) (.here _ _) rfl
      have q4 := C.cell (o := 4) (.here _ _) rfl
      have q5 := C.cell (o := 5) (.here _ _) rfl
      have q6 := C.cell (o := 6) (.here _ _) rfl
      have q7 := C.cell (o := 7) (.here _ _) rfl
      have q8 := C.cell (o := 8) (.here _ _) rfl
      clear C
      go_enter Tryd.func12, Tryd.ntmps12
      go_wp2_with fail
      generalize w.alloc (.cells [Value.int .i64 fr, .int .i64 dst, .int .i64 kind, .int .u64 n, .int .i64 by1, .int .u64 seq, .int .u64 ack, .int .u64 mask, .slice a m c].toArray 25) = w1 at *
      refine (hn.out fr _ true (by simpa using hfr.out)).mono ?_
      rintro e w2 ⟨rfl, rfl⟩
      go_wp2_with fail
      refine (hn.out dst _ true (by simpa using hdst.out)).mono ?_
      rintro e w2 ⟨rfl, rfl⟩
      go_wp2_with fail
      refine (hn.out by1 _ true (by simpa using hby1.out)).mono ?_
      rintro e w2 ⟨rfl, rfl⟩
      go_wp2_with fail
      go_ret
      exact ⟨by rw [hE.out]; rfl, hH.out.tail⟩
    have hx1 := Lib.hid (Classical.not_not.1 h)
    have hb1 : (ack == 0) = true := by have := hx1.out; simp; omega
    clear h
    by_cases h : ¬ (mask = 0)
    · have hE := Lib.hid (hno.out fun hh => by
        have h1 := hh.2.2.2.2
        have h2 := hk'.out
        omega)
      have hx := Lib.hid h
      clear h hyes hno
      have hb2 : (mask == 0) = false := by have := hx.out; simp; omega
      clear hx
      have C := hH.out
      have q0 := C.cell (o := 0) (.here _ _) rfl
      have q1 := C.cell (o := 1) (.here _ _) rfl
      have q2 := C.cell (o := 2) (.here _ _) rfl
      have q4 := C.cell (o := 4) (.here _ _) rfl
      have q5 := C.cell (o := 5) (.here _ _) rfl
      have q6 := C.cell (o := 6) (.here _ _) rfl
      have q7 := C.cell (o := 7) (.here _ _) rfl
      have q8 := C.cell (o := 8) (.here _ _) rfl
      clear C
      go_enter Tryd.func12, Tryd.ntmps12
      go_wp2_with fail
      generalize w.alloc (.cells [Value.int .i64 fr, .int .i64 dst, .int .i64 kind, .int .u64 n, .int .i64 by1, .int .u64 seq, .int .u64 ack, .int .u64 mask, .slice a m c].toArray 25) = w1 at *
      refine (hn.out fr _ true (by simpa using hfr.out)).mono ?_
      rintro e w2 ⟨rfl, rfl⟩
      go_wp2_with fail
      refine (hn.out dst _ true (by simpa using hdst.out)).mono ?_
      rintro e w2 ⟨rfl, rfl⟩
      go_wp2_with fail
      refine (hn.out by1 _ true (by simpa using hby1.out)).mono ?_
      rintro e w2 ⟨rfl, rfl⟩
      go_wp2_with fail
      go_ret
      exact ⟨by rw [hE.out]; rfl, hH.out.tail⟩
    have hx2 := Lib.hid (Classical.not_not.1 h)
    have hb2 : (mask == 0) = true := by have := hx2.out; simp; omega
    clear h
    by_cases h : ¬ (m = 0)
    · have hE := Lib.hid (hno.out fun hh => by
        have h1 := hh.2.2.2.2
        have h2 := hk'.out
        omega)
      have hx := Lib.hid h
      clear h hyes hno
      have hbm : ((m : Int) == 0) = false := by have := hx.out; simp; omega
      have hbm2 : (m == 0) = false := by have := hx.out; simp; omega
      clear hx
      have C := hH.out
      have q0 := C.cell (o := 0) (.here _ _) rfl
      have q1 := C.cell (o := 1) (.here _ _) rfl
      have q2 := C.cell (o := 2) (.here _ _) rfl
      have q4 := C.cell (o := 4) (.here _ _) rfl
      have q5 := C.cell (o := 5) (.here _ _) rfl
      have q6 := C.cell (o := 6) (.here _ _) rfl
      have q7 := C.cell (o := 7) (.here _ _) rfl
      have q8 := C.cell (o := 8) (.here _ _) rfl
      clear C
      go_enter Tryd.func12, Tryd.ntmps12
      go_wp2_with fail
      generalize w.alloc (.cells [Value.int .i64 fr, .int .i64 dst, .int .i64 kind, .int .u64 n, .int .i64 by1, .int .u64 seq, .int .u64 ack, .int .u64 mask, .slice a m c].toArray 25) = w1 at *
      refine (hn.out fr _ true (by simpa using hfr.out)).mono ?_
      rintro e w2 ⟨rfl, rfl⟩
      go_wp2_with fail
      refine (hn.out dst _ true (by simpa using hdst.out)).mono ?_
      rintro e w2 ⟨rfl, rfl⟩
      go_wp2_with fail
      refine (hn.out by1 _ true (by simpa using hby1.out)).mono ?_
      rintro e w2 ⟨rfl, rfl⟩
      go_wp2_with fail
      go_ret
      exact ⟨by rw [hE.out]; rfl, hH.out.tail⟩
    have hx3 := Lib.hid (Classical.not_not.1 h)
    have hbm : ((m : Int) == 0) = true := by have := hx3.out; simp; omega
    have hbm2 : (m == 0) = true := by have := hx3.out; simp; omega
    clear h
    have hE := Lib.hid (hyes.out ⟨hfr.out, hdst.out, hby1.out, hfd.out, .inl ⟨hk'.out, hx0.out, hx1.out, hx2.out, hx3.out⟩⟩)
    clear hyes hno
    have C := hH.out
    have q0 := C.cell (o := 0) (.here _ _) rfl
    have q1 := C.cell (o := 1) (.here _ _) rfl
    have q2 := C.cell (o := 2) (.here _ _) rfl
    have q4 := C.cell (o := 4) (.here _ _) rfl
    have q5 := C.cell (o := 5) (.here _ _) rfl
    have q6 := C.cell (o := 6) (.here _ _) rfl
    have q7 := C.cell (o := 7) (.here _ _) rfl
    have q8 := C.cell (o := 8) (.here _ _) rfl
    clear C
    go_enter Tryd.func12, Tryd.ntmps12
    go_wp2_with fail
    generalize w.alloc (.cells [Value.int .i64 fr, .int .i64 dst, .int .i64 kind, .int .u64 n, .int .i64 by1, .int .u64 seq, .int .u64 ack, .int .u64 mask, .slice a m c].toArray 25) = w1 at *
    refine (hn.out fr _ true (by simpa using hfr.out)).mono ?_
    rintro e w2 ⟨rfl, rfl⟩
    go_wp2_with fail
    refine (hn.out dst _ true (by simpa using hdst.out)).mono ?_
    rintro e w2 ⟨rfl, rfl⟩
    go_wp2_with fail
    refine (hn.out by1 _ true (by simpa using hby1.out)).mono ?_
    rintro e w2 ⟨rfl, rfl⟩
    go_wp2_with fail
    go_ret
    exact ⟨by rw [hE.out]; rfl, hH.out.tail⟩
  have hkn1 := Lib.hid hk
  clear hk
  by_cases hk : kind = 2
  · have hk1 : (kind == 1) = false := by simp; omega
    have hk2 : (kind == 2) = true := by simp; omega
    have hk' := Lib.hid hk
    clear hk
    by_cases h : ¬ (seq < 4611686018427387904)
    · have hE := Lib.hid (hno.out fun hh => by
        have h1 := hh.2.2.2.2
        have h2 := hk'.out
        omega)
      have hx := Lib.hid h
      clear h hyes hno
      have hb0 : (decide (seq < 4611686018427387904)) = false := by have := hx.out; simp; omega
      clear hx
      have C := hH.out
      have q0 := C.cell (o := 0) (.here _ _) rfl
      have q1 := C.cell (o := 1) (.here _ _) rfl
      have q2 := C.cell (o := 2) (.here _ _) rfl
      have q4 := C.cell (o := 4) (.here _ _) rfl
      have q5 := C.cell (o := 5) (.here _ _) rfl
      have q6 := C.cell (o := 6) (.here _ _) rfl
      have q7 := C.cell (o := 7) (.here _ _) rfl
      have q8 := C.cell (o := 8) (.here _ _) rfl
      clear C
      go_enter Tryd.func12, Tryd.ntmps12
      go_wp2_with fail
      generalize w.alloc (.cells [Value.int .i64 fr, .int .i64 dst, .int .i64 kind, .int .u64 n, .int .i64 by1, .int .u64 seq, .int .u64 ack, .int .u64 mask, .slice a m c].toArray 25) = w1 at *
      refine (hn.out fr _ true (by simpa using hfr.out)).mono ?_
      rintro e w2 ⟨rfl, rfl⟩
      go_wp2_with fail
      refine (hn.out dst _ true (by simpa using hdst.out)).mono ?_
      rintro e w2 ⟨rfl, rfl⟩
      go_wp2_with fail
      refine (hn.out by1 _ true (by simpa using hby1.out)).mono ?_
      rintro e w2 ⟨rfl, rfl⟩
      go_wp2_with fail
      go_ret
      exact ⟨by rw [hE.out]; rfl, hH.out.tail⟩
    have hx0 := Lib.hid (Classical.not_not.1 h)
    have hb0 : (decide (seq < 4611686018427387904)) = true := by have := hx0.out; simp; omega
    clear h
    by_cases h : ¬ (ack ≤ 4611686018427387904)
    · have hE := Lib.hid (hno.out fun hh => by
        have h1 := hh.2.2.2.2
        have h2 := hk'.out
        omega)
      have hx := Lib.hid h
      clear h hyes hno
      have hb1 : (decide (ack ≤ 4611686018427387904)) = false := by have := hx.out; simp; omega
      clear hx
      have C := hH.out
      have q0 := C.cell (o := 0) (.here _ _) rfl
      have q1 := C.cell (o := 1) (.here _ _) rfl
      have q2 := C.cell (o := 2) (.here _ _) rfl
      have q4 := C.cell (o := 4) (.here _ _) rfl
      have q5 := C.cell (o := 5) (.here _ _) rfl
      have q6 := C.cell (o := 6) (.here _ _) rfl
      have q7 := C.cell (o := 7) (.here _ _) rfl
      have q8 := C.cell (o := 8) (.here _ _) rfl
      clear C
      go_enter Tryd.func12, Tryd.ntmps12
      go_wp2_with fail
      generalize w.alloc (.cells [Value.int .i64 fr, .int .i64 dst, .int .i64 kind, .int .u64 n, .int .i64 by1, .int .u64 seq, .int .u64 ack, .int .u64 mask, .slice a m c].toArray 25) = w1 at *
      refine (hn.out fr _ true (by simpa using hfr.out)).mono ?_
      rintro e w2 ⟨rfl, rfl⟩
      go_wp2_with fail
      refine (hn.out dst _ true (by simpa using hdst.out)).mono ?_
      rintro e w2 ⟨rfl, rfl⟩
      go_wp2_with fail
      refine (hn.out by1 _ true (by simpa using hby1.out)).mono ?_
      rintro e w2 ⟨rfl, rfl⟩
      go_wp2_with fail
      go_ret
      exact ⟨by rw [hE.out]; rfl, hH.out.tail⟩
    have hx1 := Lib.hid (Classical.not_not.1 h)
    have hb1 : (decide (ack ≤ 4611686018427387904)) = true := by have := hx1.out; simp; omega
    clear h
    by_cases h : ¬ (mask < 9223372036854775808)
    · have hE := Lib.hid (hno.out fun hh => by
        have h1 := hh.2.2.2.2
        have h2 := hk'.out
        omega)
      have hx := Lib.hid h
      clear h hyes hno
      have hb2 : (decide (mask < 9223372036854775808)) = false := by have := hx.out; simp; omega
      clear hx
      have C := hH.out
      have q0 := C.cell (o := 0) (.here _ _) rfl
      have q1 := C.cell (o := 1) (.here _ _) rfl
      have q2 := C.cell (o := 2) (.here _ _) rfl
      have q4 := C.cell (o := 4) (.here _ _) rfl
      have q5 := C.cell (o := 5) (.here _ _) rfl
      have q6 := C.cell (o := 6) (.here _ _) rfl
      have q7 := C.cell (o := 7) (.here _ _) rfl
      have q8 := C.cell (o := 8) (.here _ _) rfl
      clear C
      go_enter Tryd.func12, Tryd.ntmps12
      go_wp2_with fail
      generalize w.alloc (.cells [Value.int .i64 fr, .int .i64 dst, .int .i64 kind, .int .u64 n, .int .i64 by1, .int .u64 seq, .int .u64 ack, .int .u64 mask, .slice a m c].toArray 25) = w1 at *
      refine (hn.out fr _ true (by simpa using hfr.out)).mono ?_
      rintro e w2 ⟨rfl, rfl⟩
      go_wp2_with fail
      refine (hn.out dst _ true (by simpa using hdst.out)).mono ?_
      rintro e w2 ⟨rfl, rfl⟩
      go_wp2_with fail
      refine (hn.out by1 _ true (by simpa using hby1.out)).mono ?_
      rintro e w2 ⟨rfl, rfl⟩
      go_wp2_with fail
      go_ret
      exact ⟨by rw [hE.out]; rfl, hH.out.tail⟩
    have hx2 := Lib.hid (Classical.not_not.1 h)
    have hb2 : (decide (mask < 9223372036854775808)) = true := by have := hx2.out; simp; omega
    clear h
    by_cases h : ¬ (m ≤ 900)
    · have hE := Lib.hid (hno.out fun hh => by
        have h1 := hh.2.2.2.2
        have h2 := hk'.out
        omega)
      have hx := Lib.hid h
      clear h hyes hno
      have hbm : decide ((m : Int) ≤ 900) = false := by have := hx.out; simp; omega
      have hbm2 : decide (m ≤ 900) = false := by have := hx.out; simp; omega
      clear hx
      have C := hH.out
      have q0 := C.cell (o := 0) (.here _ _) rfl
      have q1 := C.cell (o := 1) (.here _ _) rfl
      have q2 := C.cell (o := 2) (.here _ _) rfl
      have q4 := C.cell (o := 4) (.here _ _) rfl
      have q5 := C.cell (o := 5) (.here _ _) rfl
      have q6 := C.cell (o := 6) (.here _ _) rfl
      have q7 := C.cell (o := 7) (.here _ _) rfl
      have q8 := C.cell (o := 8) (.here _ _) rfl
      clear C
      go_enter Tryd.func12, Tryd.ntmps12
      go_wp2_with fail
      generalize w.alloc (.cells [Value.int .i64 fr, .int .i64 dst, .int .i64 kind, .int .u64 n, .int .i64 by1, .int .u64 seq, .int .u64 ack, .int .u64 mask, .slice a m c].toArray 25) = w1 at *
      refine (hn.out fr _ true (by simpa using hfr.out)).mono ?_
      rintro e w2 ⟨rfl, rfl⟩
      go_wp2_with fail
      refine (hn.out dst _ true (by simpa using hdst.out)).mono ?_
      rintro e w2 ⟨rfl, rfl⟩
      go_wp2_with fail
      refine (hn.out by1 _ true (by simpa using hby1.out)).mono ?_
      rintro e w2 ⟨rfl, rfl⟩
      go_wp2_with fail
      go_ret
      exact ⟨by rw [hE.out]; rfl, hH.out.tail⟩
    have hx3 := Lib.hid (Classical.not_not.1 h)
    have hbm : decide ((m : Int) ≤ 900) = true := by have := hx3.out; simp; omega
    have hbm2 : decide (m ≤ 900) = true := by have := hx3.out; simp; omega
    clear h
    have hE := Lib.hid (hyes.out ⟨hfr.out, hdst.out, hby1.out, hfd.out, .inr (.inl ⟨hk'.out, hx0.out, hx1.out, hx2.out, hx3.out⟩)⟩)
    clear hyes hno
    have C := hH.out
    have q0 := C.cell (o := 0) (.here _ _) rfl
    have q1 := C.cell (o := 1) (.here _ _) rfl
    have q2 := C.cell (o := 2) (.here _ _) rfl
    have q4 := C.cell (o := 4) (.here _ _) rfl
    have q5 := C.cell (o := 5) (.here _ _) rfl
    have q6 := C.cell (o := 6) (.here _ _) rfl
    have q7 := C.cell (o := 7) (.here _ _) rfl
    have q8 := C.cell (o := 8) (.here _ _) rfl
    clear C
    go_enter Tryd.func12, Tryd.ntmps12
    go_wp2_with fail
    generalize w.alloc (.cells [Value.int .i64 fr, .int .i64 dst, .int .i64 kind, .int .u64 n, .int .i64 by1, .int .u64 seq, .int .u64 ack, .int .u64 mask, .slice a m c].toArray 25) = w1 at *
    refine (hn.out fr _ true (by simpa using hfr.out)).mono ?_
    rintro e w2 ⟨rfl, rfl⟩
    go_wp2_with fail
    refine (hn.out dst _ true (by simpa using hdst.out)).mono ?_
    rintro e w2 ⟨rfl, rfl⟩
    go_wp2_with fail
    refine (hn.out by1 _ true (by simpa using hby1.out)).mono ?_
    rintro e w2 ⟨rfl, rfl⟩
    go_wp2_with fail
    go_ret
    exact ⟨by rw [hE.out]; rfl, hH.out.tail⟩
  have hkn2 := Lib.hid hk
  clear hk
  by_cases hk : kind = 3
  · have hk1 : (kind == 1) = false := by simp; omega
    have hk2 : (kind == 2) = false := by simp; omega
    have hk3 : (kind == 3) = true := by simp; omega
    have hk' := Lib.hid hk
    clear hk
    by_cases h : ¬ (seq = 0)
    · have hE := Lib.hid (hno.out fun hh => by
        have h1 := hh.2.2.2.2
        have h2 := hk'.out
        omega)
      have hx := Lib.hid h
      clear h hyes hno
      have hb0 : (seq == 0) = false := by have := hx.out; simp; omega
      clear hx
      have C := hH.out
      have q0 := C.cell (o := 0) (.here _ _) rfl
      have q1 := C.cell (o := 1) (.here _ _) rfl
      have q2 := C.cell (o := 2) (.here _ _) rfl
      have q4 := C.cell (o := 4) (.here _ _) rfl
      have q5 := C.cell (o := 5) (.here _ _) rfl
      have q6 := C.cell (o := 6) (.here _ _) rfl
      have q7 := C.cell (o := 7) (.here _ _) rfl
      have q8 := C.cell (o := 8) (.here _ _) rfl
      clear C
      go_enter Tryd.func12, Tryd.ntmps12
      go_wp2_with fail
      generalize w.alloc (.cells [Value.int .i64 fr, .int .i64 dst, .int .i64 kind, .int .u64 n, .int .i64 by1, .int .u64 seq, .int .u64 ack, .int .u64 mask, .slice a m c].toArray 25) = w1 at *
      refine (hn.out fr _ true (by simpa using hfr.out)).mono ?_
      rintro e w2 ⟨rfl, rfl⟩
      go_wp2_with fail
      refine (hn.out dst _ true (by simpa using hdst.out)).mono ?_
      rintro e w2 ⟨rfl, rfl⟩
      go_wp2_with fail
      refine (hn.out by1 _ true (by simpa using hby1.out)).mono ?_
      rintro e w2 ⟨rfl, rfl⟩
      go_wp2_with fail
      go_ret
      exact ⟨by rw [hE.out]; rfl, hH.out.tail⟩
    have hx0 := Lib.hid (Classical.not_not.1 h)
    have hb0 : (seq == 0) = true := by have := hx0.out; simp; omega
    clear h
    by_cases h : ¬ (ack ≤ 4611686018427387904)
    · have hE := Lib.hid (hno.out fun hh => by
        have h1 := hh.2.2.2.2
        have h2 := hk'.out
        omega)
      have hx := Lib.hid h
      clear h hyes hno
      have hb1 : (decide (ack ≤ 4611686018427387904)) = false := by have := hx.out; simp; omega
      clear hx
      have C := hH.out
      have q0 := C.cell (o := 0) (.here _ _) rfl
      have q1 := C.cell (o := 1) (.here _ _) rfl
      have q2 := C.cell (o := 2) (.here _ _) rfl
      have q4 := C.cell (o := 4) (.here _ _) rfl
      have q5 := C.cell (o := 5) (.here _ _) rfl
      have q6 := C.cell (o := 6) (.here _ _) rfl
      have q7 := C.cell (o := 7) (.here _ _) rfl
      have q8 := C.cell (o := 8) (.here _ _) rfl
      clear C
      go_enter Tryd.func12, Tryd.ntmps12
      go_wp2_with fail
      generalize w.alloc (.cells [Value.int .i64 fr, .int .i64 dst, .int .i64 kind, .int .u64 n, .int .i64 by1, .int .u64 seq, .int .u64 ack, .int .u64 mask, .slice a m c].toArray 25) = w1 at *
      refine (hn.out fr _ true (by simpa using hfr.out)).mono ?_
      rintro e w2 ⟨rfl, rfl⟩
      go_wp2_with fail
      refine (hn.out dst _ true (by simpa using hdst.out)).mono ?_
      rintro e w2 ⟨rfl, rfl⟩
      go_wp2_with fail
      refine (hn.out by1 _ true (by simpa using hby1.out)).mono ?_
      rintro e w2 ⟨rfl, rfl⟩
      go_wp2_with fail
      go_ret
      exact ⟨by rw [hE.out]; rfl, hH.out.tail⟩
    have hx1 := Lib.hid (Classical.not_not.1 h)
    have hb1 : (decide (ack ≤ 4611686018427387904)) = true := by have := hx1.out; simp; omega
    clear h
    by_cases h : ¬ (mask < 9223372036854775808)
    · have hE := Lib.hid (hno.out fun hh => by
        have h1 := hh.2.2.2.2
        have h2 := hk'.out
        omega)
      have hx := Lib.hid h
      clear h hyes hno
      have hb2 : (decide (mask < 9223372036854775808)) = false := by have := hx.out; simp; omega
      clear hx
      have C := hH.out
      have q0 := C.cell (o := 0) (.here _ _) rfl
      have q1 := C.cell (o := 1) (.here _ _) rfl
      have q2 := C.cell (o := 2) (.here _ _) rfl
      have q4 := C.cell (o := 4) (.here _ _) rfl
      have q5 := C.cell (o := 5) (.here _ _) rfl
      have q6 := C.cell (o := 6) (.here _ _) rfl
      have q7 := C.cell (o := 7) (.here _ _) rfl
      have q8 := C.cell (o := 8) (.here _ _) rfl
      clear C
      go_enter Tryd.func12, Tryd.ntmps12
      go_wp2_with fail
      generalize w.alloc (.cells [Value.int .i64 fr, .int .i64 dst, .int .i64 kind, .int .u64 n, .int .i64 by1, .int .u64 seq, .int .u64 ack, .int .u64 mask, .slice a m c].toArray 25) = w1 at *
      refine (hn.out fr _ true (by simpa using hfr.out)).mono ?_
      rintro e w2 ⟨rfl, rfl⟩
      go_wp2_with fail
      refine (hn.out dst _ true (by simpa using hdst.out)).mono ?_
      rintro e w2 ⟨rfl, rfl⟩
      go_wp2_with fail
      refine (hn.out by1 _ true (by simpa using hby1.out)).mono ?_
      rintro e w2 ⟨rfl, rfl⟩
      go_wp2_with fail
      go_ret
      exact ⟨by rw [hE.out]; rfl, hH.out.tail⟩
    have hx2 := Lib.hid (Classical.not_not.1 h)
    have hb2 : (decide (mask < 9223372036854775808)) = true := by have := hx2.out; simp; omega
    clear h
    by_cases h : ¬ (m = 0)
    · have hE := Lib.hid (hno.out fun hh => by
        have h1 := hh.2.2.2.2
        have h2 := hk'.out
        omega)
      have hx := Lib.hid h
      clear h hyes hno
      have hbm : ((m : Int) == 0) = false := by have := hx.out; simp; omega
      have hbm2 : (m == 0) = false := by have := hx.out; simp; omega
      clear hx
      have C := hH.out
      have q0 := C.cell (o := 0) (.here _ _) rfl
      have q1 := C.cell (o := 1) (.here _ _) rfl
      have q2 := C.cell (o := 2) (.here _ _) rfl
      have q4 := C.cell (o := 4) (.here _ _) rfl
      have q5 := C.cell (o := 5) (.here _ _) rfl
      have q6 := C.cell (o := 6) (.here _ _) rfl
      have q7 := C.cell (o := 7) (.here _ _) rfl
      have q8 := C.cell (o := 8) (.here _ _) rfl
      clear C
      go_enter Tryd.func12, Tryd.ntmps12
      go_wp2_with fail
      generalize w.alloc (.cells [Value.int .i64 fr, .int .i64 dst, .int .i64 kind, .int .u64 n, .int .i64 by1, .int .u64 seq, .int .u64 ack, .int .u64 mask, .slice a m c].toArray 25) = w1 at *
      refine (hn.out fr _ true (by simpa using hfr.out)).mono ?_
      rintro e w2 ⟨rfl, rfl⟩
      go_wp2_with fail
      refine (hn.out dst _ true (by simpa using hdst.out)).mono ?_
      rintro e w2 ⟨rfl, rfl⟩
      go_wp2_with fail
      refine (hn.out by1 _ true (by simpa using hby1.out)).mono ?_
      rintro e w2 ⟨rfl, rfl⟩
      go_wp2_with fail
      go_ret
      exact ⟨by rw [hE.out]; rfl, hH.out.tail⟩
    have hx3 := Lib.hid (Classical.not_not.1 h)
    have hbm : ((m : Int) == 0) = true := by have := hx3.out; simp; omega
    have hbm2 : (m == 0) = true := by have := hx3.out; simp; omega
    clear h
    have hE := Lib.hid (hyes.out ⟨hfr.out, hdst.out, hby1.out, hfd.out, .inr (.inr ⟨hk'.out, hx0.out, hx1.out, hx2.out, hx3.out⟩)⟩)
    clear hyes hno
    have C := hH.out
    have q0 := C.cell (o := 0) (.here _ _) rfl
    have q1 := C.cell (o := 1) (.here _ _) rfl
    have q2 := C.cell (o := 2) (.here _ _) rfl
    have q4 := C.cell (o := 4) (.here _ _) rfl
    have q5 := C.cell (o := 5) (.here _ _) rfl
    have q6 := C.cell (o := 6) (.here _ _) rfl
    have q7 := C.cell (o := 7) (.here _ _) rfl
    have q8 := C.cell (o := 8) (.here _ _) rfl
    clear C
    go_enter Tryd.func12, Tryd.ntmps12
    go_wp2_with fail
    generalize w.alloc (.cells [Value.int .i64 fr, .int .i64 dst, .int .i64 kind, .int .u64 n, .int .i64 by1, .int .u64 seq, .int .u64 ack, .int .u64 mask, .slice a m c].toArray 25) = w1 at *
    refine (hn.out fr _ true (by simpa using hfr.out)).mono ?_
    rintro e w2 ⟨rfl, rfl⟩
    go_wp2_with fail
    refine (hn.out dst _ true (by simpa using hdst.out)).mono ?_
    rintro e w2 ⟨rfl, rfl⟩
    go_wp2_with fail
    refine (hn.out by1 _ true (by simpa using hby1.out)).mono ?_
    rintro e w2 ⟨rfl, rfl⟩
    go_wp2_with fail
    go_ret
    exact ⟨by rw [hE.out]; rfl, hH.out.tail⟩
  have hkn3 := Lib.hid hk
  clear hk
  have hk1 : (kind == 1) = false := by have := hkn1.out; simp; omega
  have hk2 : (kind == 2) = false := by have := hkn2.out; simp; omega
  have hk3 : (kind == 3) = false := by have := hkn3.out; simp; omega
  have hE := Lib.hid (hno.out fun hh => by
    have h1 := hh.2.2.2.2
    have := hkn1.out
    have := hkn2.out
    have := hkn3.out
    omega)
  clear hyes hno
  have C := hH.out
  have q0 := C.cell (o := 0) (.here _ _) rfl
  have q1 := C.cell (o := 1) (.here _ _) rfl
  have q2 := C.cell (o := 2) (.here _ _) rfl
  have q4 := C.cell (o := 4) (.here _ _) rfl
  have q5 := C.cell (o := 5) (.here _ _) rfl
  have q6 := C.cell (o := 6) (.here _ _) rfl
  have q7 := C.cell (o := 7) (.here _ _) rfl
  have q8 := C.cell (o := 8) (.here _ _) rfl
  clear C
  go_enter Tryd.func12, Tryd.ntmps12
  go_wp2_with fail
  generalize w.alloc (.cells [Value.int .i64 fr, .int .i64 dst, .int .i64 kind, .int .u64 n, .int .i64 by1, .int .u64 seq, .int .u64 ack, .int .u64 mask, .slice a m c].toArray 25) = w1 at *
  refine (hn.out fr _ true (by simpa using hfr.out)).mono ?_
  rintro e w2 ⟨rfl, rfl⟩
  go_wp2_with fail
  refine (hn.out dst _ true (by simpa using hdst.out)).mono ?_
  rintro e w2 ⟨rfl, rfl⟩
  go_wp2_with fail
  refine (hn.out by1 _ true (by simpa using hby1.out)).mono ?_
  rintro e w2 ⟨rfl, rfl⟩
  go_wp2_with fail
  go_ret
  exact ⟨by rw [hE.out]; rfl, hH.out.tail⟩
end Go.Proofs.YtilpkfgdlehmpaaDoor
