/- on, Drop, Calm, Below. -/
import Derived.Test.YtcjmkpphohkofaaMet
namespace Go.Proofs.Ytcjmkpphohkofaa
open Go.RowKit
set_option linter.unusedVariables false

section
variable {R : Int} {p : Nat} {s : Ck} {L : List Pc} {w : World}
theorem on_no (H : CAt R p s L w) (k : Int) (hn : hasK s.l k = false) (f : Value) :
    Calls Try.prog 29 #[ptrV p, .int .u64 k, f] w fun e w' => e = .returned (.int .i64 200) ∧ CAt R p s L w' := by
  have hno := Lib.hid (none_c H)
  obtain ⟨sl, HS, ok⟩ := H
  have hfi := Lib.hid (find_c HS ok k)
  have hok := Lib.hid ok
  clear HS ok
  unfold ptrV at *
  go_enter Try.func29, Try.ntmps29
  go_wp2_with fail
  refine hno.out.mono ?_
  rintro e w2 ⟨rfl, rfl⟩
  go_wp2_with fail
  refine hfi.out.mono ?_
  rintro e w2 ⟨i, rfl, hc, H2⟩
  have hhit := cut_hit hok.out.srt hc
  rw [hn] at hhit
  rw [hhit]
  have hfin := Lib.hid (show CAt R p s L w2 from ⟨_, H2, hok.out⟩)
  clear hc H2 hfi hno hok
  go_wp2_with fail
  go_ret
  exact ⟨rfl, hfin.out⟩
/-- The key's alarm stands at i: the function is called with that. -/
theorem on_drop (H : CAt R p s L w) (k : Int) (hy : hasK s.l k = true) (c1 : Value) {S : Ck} {L' : List Pc}
    (hdo : ∀ V i, hit s.l k i = true → CAt R p s L V → Calls Try.prog 30 #[.int .i64 (i : Nat), c1] V fun e w' => (∃ v, e = .returned v) ∧ CAt R p S L' w') :
    Calls Try.prog 29 #[ptrV p, .int .u64 k, .func (.func 30) #[] #[c1]] w fun e w' => e = .returned (.int .i64 0) ∧ CAt R p S L' w' := by
  have hno := Lib.hid (none_c H)
  obtain ⟨sl, HS, ok⟩ := H
  have hfi := Lib.hid (find_c HS ok k)
  have hok := Lib.hid ok
  have hdo' := Lib.hid hdo
  clear HS ok hdo
  unfold ptrV at *
  go_enter Try.func29, Try.ntmps29
  go_wp2_with fail
  refine hno.out.mono ?_
  rintro e w2 ⟨rfl, rfl⟩
  go_wp2_with fail
  refine hfi.out.mono ?_
  rintro e w2 ⟨i, rfl, hc, H2⟩
  have hhit := cut_hit hok.out.srt hc
  rw [hy] at hhit
  rw [hhit]
  have hf := Lib.hid (hdo'.out w2 i hhit ⟨_, H2, hok.out⟩)
  clear hc H2 hfi hno hok hdo' hhit
  go_wp2_with fail
  refine hf.out.mono ?_
  rintro e w3 ⟨⟨v, rfl⟩, H3⟩
  have hfin := Lib.hid H3
  clear hf H3
  go_wp2_with fail
  go_ret
  exact ⟨rfl, hfin.out⟩
/-- The key's alarm stands at i: the function is called with that. -/
theorem on_calm (H : CAt R p s L w) (k : Int) (hy : hasK s.l k = true) (c1 : Value) {S : Ck} {L' : List Pc}
    (hdo : ∀ V i, hit s.l k i = true → CAt R p s L V → Calls Try.prog 34 #[.int .i64 (i : Nat), c1] V fun e w' => (∃ v, e = .returned v) ∧ CAt R p S L' w') :
    Calls Try.prog 29 #[ptrV p, .int .u64 k, .func (.func 34) #[] #[c1]] w fun e w' => e = .returned (.int .i64 0) ∧ CAt R p S L' w' := by
  have hno := Lib.hid (none_c H)
  obtain ⟨sl, HS, ok⟩ := H
  have hfi := Lib.hid (find_c HS ok k)
  have hok := Lib.hid ok
  have hdo' := Lib.hid hdo
  clear HS ok hdo
  unfold ptrV at *
  go_enter Try.func29, Try.ntmps29
  go_wp2_with fail
  refine hno.out.mono ?_
  rintro e w2 ⟨rfl, rfl⟩
  go_wp2_with fail
  refine hfi.out.mono ?_
  rintro e w2 ⟨i, rfl, hc, H2⟩
  have hhit := cut_hit hok.out.srt hc
  rw [hy] at hhit
  rw [hhit]
  have hf := Lib.hid (hdo'.out w2 i hhit ⟨_, H2, hok.out⟩)
  clear hc H2 hfi hno hok hdo' hhit
  go_wp2_with fail
  refine hf.out.mono ?_
  rintro e w3 ⟨⟨v, rfl⟩, H3⟩
  have hfin := Lib.hid H3
  clear hf H3
  go_wp2_with fail
  go_ret
  exact ⟨rfl, hfin.out⟩
/-- The key's alarm stands at i: the function is called with that. -/
theorem on_told (H : CAt R p s L w) (k : Int) (hy : hasK s.l k = true) (c1 c2 : Value) {S : Ck} {L' : List Pc}
    (hdo : ∀ V i, hit s.l k i = true → CAt R p s L V → Calls Try.prog 50 #[.int .i64 (i : Nat), c1, c2] V fun e w' => (∃ v, e = .returned v) ∧ CAt R p S L' w') :
    Calls Try.prog 29 #[ptrV p, .int .u64 k, .func (.func 50) #[] #[c1, c2]] w fun e w' => e = .returned (.int .i64 0) ∧ CAt R p S L' w' := by
  have hno := Lib.hid (none_c H)
  obtain ⟨sl, HS, ok⟩ := H
  have hfi := Lib.hid (find_c HS ok k)
  have hok := Lib.hid ok
  have hdo' := Lib.hid hdo
  clear HS ok hdo
  unfold ptrV at *
  go_enter Try.func29, Try.ntmps29
  go_wp2_with fail
  refine hno.out.mono ?_
  rintro e w2 ⟨rfl, rfl⟩
  go_wp2_with fail
  refine hfi.out.mono ?_
  rintro e w2 ⟨i, rfl, hc, H2⟩
  have hhit := cut_hit hok.out.srt hc
  rw [hy] at hhit
  rw [hhit]
  have hf := Lib.hid (hdo'.out w2 i hhit ⟨_, H2, hok.out⟩)
  clear hc H2 hfi hno hok hdo' hhit
  go_wp2_with fail
  refine hf.out.mono ?_
  rintro e w3 ⟨⟨v, rfl⟩, H3⟩
  have hfin := Lib.hid H3
  clear hf H3
  go_wp2_with fail
  go_ret
  exact ⟨rfl, hfin.out⟩
end
end Go.Proofs.Ytcjmkpphohkofaa
