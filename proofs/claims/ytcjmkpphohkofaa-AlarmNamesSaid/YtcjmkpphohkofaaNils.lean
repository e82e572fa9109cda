/- Calls on none; what AlarmNames meets. -/
import Derived.Test.YtcjmkpphohkofaaTimesL
namespace Go.Proofs.Ytcjmkpphohkofaa
open Go.RowKit
set_option linter.unusedVariables false

theorem nset_c (k : Int) (w : World) : Calls Try.prog 10 #[.pointer none, .int .u64 k] w fun e w' => e = .returned (.int .i64 1) ∧ w = w' := by
  have hn := Lib.hid (nnone_c w)
  go_enter Try.func10, Try.ntmps10
  go_wp2_with fail
  refine hn.out.mono ?_
  rintro e w' ⟨rfl, rfl⟩
  go_wp2_with fail
  go_ret
  exact ⟨rfl, rfl⟩
/-- A call of 'on' on none, or on a clock that was not made. -/
theorem non_c {v : Value} {w : World} (k : Int) (f : Value) (h : Calls Try.prog 26 #[v] w fun e w' => e = .returned (.bool true) ∧ w = w') :
    Calls Try.prog 29 #[v, .int .u64 k, f] w fun e w' => e = .returned (.int .i64 1) ∧ w = w' := by
  have hn := Lib.hid h
  clear h
  go_enter Try.func29, Try.ntmps29
  go_wp2_with fail
  refine hn.out.mono ?_
  rintro e w' ⟨rfl, rfl⟩
  go_wp2_with fail
  go_ret
  exact ⟨rfl, rfl⟩
theorem ncalm_c (k : Int) {w : World} {L : List Pc} (H : SL w L) : Calls Try.prog 15 #[.pointer none, .int .u64 k] w fun e w' => e = .returned (.int .i64 1) ∧ SL w' L := by
  have hn := Lib.hid (fun V f => non_c k f (nnone_c V))
  have hH := Lib.hid ((H.alloc [.pointer none] 25).tail)
  clear H
  go_enter Try.func15, Try.ntmps15
  go_wp2_with fail
  refine (hn.out _ _).mono ?_
  rintro e w' ⟨rfl, rfl⟩
  go_wp2_with fail
  go_ret
  exact ⟨rfl, hH.out⟩
theorem zdrop_c (k : Int) {w : World} {L L' : List Pc} {q : Nat} {cs : List Value} {t : TypeId} (H : SL w L) (hp : Pull L (.blk q (.int .i64 0 :: cs) t) L') : Calls Try.prog 11 #[ptrV q, .int .u64 k] w fun e w' => e = .returned (.int .i64 1) ∧ SL w' L := by
  have H2 := H.alloc [ptrV q] 25
  have hc := H2.cell (b := q) (o := 0) (.there hp) rfl
  have hn := Lib.hid (fun f => non_c k f (zero_c hc))
  have hH := Lib.hid H2.tail
  clear H H2 hc
  unfold ptrV at *
  go_enter Try.func11, Try.ntmps11
  go_wp2_with fail
  refine (hn.out _).mono ?_
  rintro e w' ⟨rfl, rfl⟩
  go_wp2_with fail
  go_ret
  exact ⟨rfl, hH.out⟩
theorem zbelow_c (k : Int) {w : World} {L L' : List Pc} {q : Nat} {cs : List Value} {t : TypeId} (H : SL w L) (hp : Pull L (.blk q (.int .i64 0 :: cs) t) L') : Calls Try.prog 21 #[ptrV q, .int .u64 k] w fun e w' => e = .returned (.int .i64 0) ∧ w = w' := by
  have hn := Lib.hid (zero_c (H.cell (b := q) (o := 0) hp rfl))
  clear H
  unfold ptrV at *
  go_enter Try.func21, Try.ntmps21
  go_wp2_with fail
  refine hn.out.mono ?_
  rintro e w' ⟨rfl, rfl⟩
  go_wp2_with fail
  go_ret
  exact ⟨rfl, rfl⟩
theorem zkeys_c {w : World} {L L' : List Pc} {q : Nat} {cs : List Value} {t : TypeId} (H : SL w L) (hp : Pull L (.blk q (.int .i64 0 :: cs) t) L') : Calls Try.prog 18 #[ptrV q] w fun e w' => e = .returned (.slice none 0 0) ∧ w = w' := by
  have hn := Lib.hid (zero_c (H.cell (b := q) (o := 0) hp rfl))
  clear H
  unfold ptrV at *
  go_enter Try.func18, Try.ntmps18
  go_wp2_with fail
  refine hn.out.mono ?_
  rintro e w' ⟨rfl, rfl⟩
  go_wp2_with fail
  go_ret
  exact ⟨rfl, rfl⟩
theorem ncopy_c (w : World) : Calls Try.prog 20 #[.pointer none] w fun e w' => e = .returned (.pointer none) ∧ w = w' := by
  have hn := Lib.hid (nnone_c w)
  go_enter Try.func20, Try.ntmps20
  go_wp2_with fail
  refine hn.out.mono ?_
  rintro e w' ⟨rfl, rfl⟩
  go_wp2_with fail
  go_ret
  exact ⟨rfl, rfl⟩
theorem ntold_c (k : Int) {w : World} {L : List Pc} (H : SL w L) : Calls Try.prog 33 #[.pointer none, .int .u64 k] w fun e w' => e = .returned (.agg #[.int .u64 0, .int .i64 0, .int .i64 0, .int .i64 0]) ∧ SL w' L := by
  have hn := Lib.hid (fun V f => non_c k f (nnone_c V))
  have H1 := H.alloc [.pointer none] 25
  have hs1 : (w.alloc (.cells [Value.pointer none].toArray 25)).heap.size = w.heap.size + 1 := World.size_alloc _ _
  have H2 := H1.alloc [.int .u64 0, .int .i64 0, .int .i64 0, .int .i64 0] 59
  rw [hs1] at H2
  have hH := Lib.hid H2
  clear H H1 H2
  go_enter Try.func33, Try.ntmps33
  go_wp2_with fail
  refine (hn.out _ _).mono ?_
  rintro e w' ⟨rfl, rfl⟩
  clear hn
  generalize (w.alloc (.cells [Value.pointer none].toArray 25)).alloc (.cells [Value.int .u64 0, .int .i64 0, .int .i64 0, .int .i64 0].toArray 59) = w3 at *
  clear hs1
  generalize w.heap.size + 1 = ab at *
  generalize w.heap.size = cb at *
  have b0 := hH.out.cell (b := ab) (o := 0) (.here _ _) rfl
  have b1 := hH.out.cell (b := ab) (o := 1) (.here _ _) rfl
  have b2 := hH.out.cell (b := ab) (o := 2) (.here _ _) rfl
  have b3 := hH.out.cell (b := ab) (o := 3) (.here _ _) rfl
  have f0 := hH.out.free (b := ab) (.here _ _)
  have H4 := (((hH.out.setCell 0 (.int .u64 0)).setCell 1 (.int .i64 0)).setCell 2 (.int .i64 0)).setCell 3 (.int .i64 0)
  dsimp only [List.set_cons_zero, List.set_cons_succ] at H4
  have hH2 := Lib.hid H4
  clear H4
  go_wp2_with fail
  generalize (((w3.setCell ⟨ab, 0, none⟩ (.int .u64 0)).setCell ⟨ab, 1, none⟩ (.int .i64 0)).setCell ⟨ab, 2, none⟩ (.int .i64 0)).setCell ⟨ab, 3, none⟩ (.int .i64 0) = w4 at *
  clear b0 b1 b2 b3 f0
  have k0 := hH2.out.cell (b := ab) (o := 0) (.here _ _) rfl
  have k1 := hH2.out.cell (b := ab) (o := 1) (.here _ _) rfl
  have k2 := hH2.out.cell (b := ab) (o := 2) (.here _ _) rfl
  have k3 := hH2.out.cell (b := ab) (o := 3) (.here _ _) rfl
  exact bodyPost_ret (v := .agg #[.int .u64 0, .int .i64 0, .int .i64 0, .int .i64 0]) (by simp [results, Try.results33, go_sem, k0, k1, k2, k3]) rfl ⟨rfl, hH2.out.tail.tail⟩
theorem nleft_c (k : Int) {w : World} {L : List Pc} (H : SL w L) : Calls Try.prog 13 #[.pointer none, .int .u64 k] w fun e w' => e = .returned (.tuple #[.int .i64 0, .bool false]) ∧ SL w' L := by
  have ho := Lib.hid (ntold_c k H)
  clear H
  go_enter Try.func13, Try.ntmps13
  go_wp2_with fail
  refine ho.out.mono ?_
  rintro e w2 ⟨rfl, H2⟩
  have hfin := Lib.hid H2
  have g1 := fun V => field_state 0 0 0 0 V
  have g2 := fun V => field_left 0 0 0 V
  clear ho H2
  go_wp2_with fail
  go_ret2
  exact ⟨rfl, hfin.out⟩
theorem nrung_c (k : Int) {w : World} {L : List Pc} (H : SL w L) : Calls Try.prog 14 #[.pointer none, .int .u64 k] w fun e w' => e = .returned (.int .i64 0) ∧ SL w' L := by
  have ho := Lib.hid (ntold_c k H)
  clear H
  go_enter Try.func14, Try.ntmps14
  go_wp2_with fail
  refine ho.out.mono ?_
  rintro e w2 ⟨rfl, H2⟩
  have hfin := Lib.hid H2
  have g1 := fun V => field_state 0 0 0 0 V
  have g2 := fun V => field_rung 0 0 0 V
  clear ho H2
  go_wp2_with fail
  go_ret
  exact ⟨rfl, hfin.out⟩
theorem ntick_c {w : World} {L : List Pc} (H : SL w L) : Calls Try.prog 12 #[.pointer none] w fun e w' => e = .returned (.slice none 0 0) ∧ SL w' L := by
  have hn := Lib.hid (fun V => nnone_c V)
  have hH := Lib.hid ((H.alloc [.pointer none] 25).tail)
  clear H
  refine calls_of_marks Try.func12 rfl ?_
  simp only [Try.ntmps12, List.size_toArray, List.length_cons, List.length_nil, Nat.reduceAdd, Nat.reduceSub, Array.replicate_succ, Array.replicate_zero, List.push_toArray, List.append_toArray, List.nil_append, List.cons_append]
  gi_wp2_with (first | refine wpIn_label ?_ | refine scope_in ?_)
  refine ⟨trivial, rfl, calls_in ((hn.out _).mono ?_)⟩
  rintro e w' ⟨rfl, rfl⟩
  gi_wp2_with (first | refine wpIn_label ?_ | refine scope_in ?_)
  repeat (first | rw [Exit.noGoto_ret] | gi_step)
  refine leave_ret (v := .slice none 0 0) ?_ ⟨rfl, hH.out⟩
  simp [results, Try.results12, go_sem]

/-! ### A full clock -/
def FS : Nat → Ck
  | 0 => ⟨65536, 65536, []⟩
  | j + 1 => setS (FS j) (18446744073709551615 - j)
theorem FS_ok : ∀ j, j ≤ 256 → (FS j).l.length = j ∧ (FS j).a = 65536 ∧ ∀ x ∈ (FS j).l, 18446744073709551616 - (j : Int) ≤ x.key
  | 0, _ => ⟨rfl, rfl, fun x hx => by cases hx⟩
  | j + 1, h => by
    obtain ⟨h1, h2, h3⟩ := FS_ok j (by omega)
    have hn : hasK (FS j).l (18446744073709551615 - j) = false := hasK_no.2 fun x hx e => by have := h3 x hx; omega
    have e : FS (j + 1) = { FS j with l := insK (FS j).l (18446744073709551615 - j) (FS j).a } := by
      show setS _ _ = _
      unfold setS
      rw [if_neg (by rw [hn, h1]; simp; omega)]
    rw [e]
    refine ⟨by show (insK _ _ _).length = _; rw [insK_length, h1], h2, fun x hx => ?_⟩
    rcases insK_mem hx with rfl | hx
    · dsimp only; omega
    · have := h3 x hx; omega
theorem FS_set {j : Nat} (h : j < 256) : setE (FS j) (18446744073709551615 - j) = 0 := by
  obtain ⟨h1, h2, h3⟩ := FS_ok j (by omega)
  have hn : hasK (FS j).l (18446744073709551615 - j) = false := hasK_no.2 fun x hx e => by have := h3 x hx; omega
  unfold setE
  rw [if_neg (by rw [hn, h1]; simp; omega)]
theorem FS_one : (FS (0 + 1)).l = [⟨18446744073709551615, 65536, 65536, 0⟩] := by kernel_rfl
theorem FS_top : ∀ j, ∃ x ∈ (FS (j + 1)).l, x.key = 18446744073709551615
  | 0 => ⟨⟨18446744073709551615, 65536, 65536, 0⟩, by rw [FS_one]; simp, rfl⟩
  | j + 1 => by
    obtain ⟨x, h1, h2⟩ := FS_top j
    exact ⟨x, mem_set h1, h2⟩
theorem FS_full {F : Ck} (hF : FS 256 = F) : setE F 0 = 200 ∧ setS F 0 = F ∧ hasE F 18446744073709551615 = 0 ∧ setE (dropS F 18446744073709551615) 0 = 0 := by
  have hh := FS_ok 256 (by omega)
  have ht := FS_top 255
  rw [show 255 + 1 = 256 from rfl] at ht
  rw [hF] at hh ht
  clear hF
  obtain ⟨h1, h2, h3⟩ := hh
  obtain ⟨x, h4, h5⟩ := ht
  refine ⟨by unfold setE; rw [if_pos (.inr (by omega))], by unfold setS; rw [if_pos (.inr (by omega))], ?_, ?_⟩
  · unfold hasE
    rw [if_pos (hasK_iff.2 ⟨x, h4, h5⟩)]
  · have hn : hasK (dropS F 18446744073709551615).l 0 = false := hasK_no.2 fun y hy e => by
      have := h3 y (List.mem_filter.1 hy).1; omega
    have hlt : (dropK F.l 18446744073709551615).length < 256 := by
      rw [← h1]
      unfold dropK
      refine Nat.lt_of_le_of_ne (List.length_filter_le _ _) fun e => ?_
      have := List.length_filter_eq_length_iff.1 e x h4
      simp [h5] at this
    unfold setE
    rw [if_neg (by rw [hn]; simp; exact hlt)]
end Go.Proofs.Ytcjmkpphohkofaa
