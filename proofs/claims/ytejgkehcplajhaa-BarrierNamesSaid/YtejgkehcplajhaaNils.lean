/- The walks of barrier's methods on none, and of a gate's. -/
import Derived.Test.YtejgkehcplajhaaMade
import Derived.Test.YtejgkehcplajhaaBar5
namespace Go.Proofs.Ytejgkehcplajhaa
open Go.RowKit Go.Shelf
set_option linter.unusedVariables false
attribute [local go_sem] Oper.semAt_some

def zeroB (z : Nat) : Pc := .blk z [.slice none 0 0, .int .i64 0, .int .i64 0, .int .i64 0, .map none] 65
def gateB (g : Nat) (b : Bool) (n : Int) : Pc := .blk g [.bool b, .int .i64 n] 25

theorem frame_nil (w : World) : Calls Try.prog 12 #[.pointer none] w fun e w' => e = .returned (.tuple #[.int .i64 0, .bool false]) ∧ w = w' := by
  have hno := Lib.hid (none_nil w)
  go_enter Try.func12, Try.ntmps12
  go_wp2_with fail
  refine hno.out.mono ?_
  rintro e w' ⟨rfl, rfl⟩
  go_wp2_with fail
  go_ret2
  exact ⟨rfl, rfl⟩
theorem has_nil (x k : Int) (w : World) : Calls Try.prog 22 #[.pointer none, .int .i64 x, .int .i64 k] w fun e w' => e = .returned (.bool false) ∧ w = w' := by
  have hno := Lib.hid (none_nil w)
  go_enter Try.func22, Try.ntmps22
  go_wp2_with fail
  refine hno.out.mono ?_
  rintro e w' ⟨rfl, rfl⟩
  go_wp2_with fail
  go_ret
  exact ⟨rfl, rfl⟩
theorem copy_nil (w : World) : Calls Try.prog 18 #[.pointer none] w fun e w' => e = .returned (.pointer none) ∧ w = w' := by
  have hno := Lib.hid (none_nil w)
  go_enter Try.func18, Try.ntmps18
  go_wp2_with fail
  refine hno.out.mono ?_
  rintro e w' ⟨rfl, rfl⟩
  go_wp2_with fail
  go_ret
  exact ⟨rfl, rfl⟩
theorem copy_zero (z : Nat) (w : World) {L : List Pc} (H : SL w (zeroB z :: L)) : Calls Try.prog 18 #[.pointer (some ⟨z, 0, none⟩)] w fun e w' => e = .returned (.pointer none) ∧ w = w' := by
  unfold zeroB at H
  have hno := Lib.hid (none_zero z 0 none w (H.cell (.here _ _) rfl))
  clear H
  go_enter Try.func18, Try.ntmps18
  go_wp2_with fail
  refine hno.out.mono ?_
  rintro e w' ⟨rfl, rfl⟩
  go_wp2_with fail
  go_ret
  exact ⟨rfl, rfl⟩
theorem passed_none (v : Option Addr) (x k : Int) (w : World) {L : List Pc} (H : SL w L) (hn : ∀ W, SL W L → Calls Try.prog 25 #[.pointer v] W fun e w' => e = .returned (.bool true) ∧ W = w') :
    Calls Try.prog 13 #[.pointer v, .int .i64 x, .int .i64 k] w fun e w' => e = .returned (.tuple #[.bool false, .int .i64 1]) ∧ SL w' L := by
  refine calls_of_marks Try.func13 rfl ?_
  simp only [Try.ntmps13, List.size_toArray, List.length_cons, List.length_nil, Nat.reduceAdd, Nat.reduceSub, Array.replicate_succ, Array.replicate_zero, List.push_toArray, List.append_toArray, List.nil_append, List.cons_append]
  have hn' := Lib.hid hn
  clear hn
  gi_wp2_with fail
  have H1 := (H.alloc [.bool false] 4).alloc [.int .i64 0] 40
  rw [World.size_alloc] at H1
  have hno := Lib.hid (hn'.out _ H1.tail.tail)
  generalize (w.alloc (.cells [Value.bool false].toArray 4)).alloc (.cells [Value.int .i64 0].toArray 40) = w1 at *
  generalize w.heap.size + 1 = q2 at *
  generalize w.heap.size = q1 at *
  clear H
  have H := H1
  (have C := H.cells; dsimp only [cellsOf, Pc.cells, cellsFrom, iset, Nat.zero_add, Nat.reduceAdd] at C; (try simp only [true_and] at C); (try simp only [and_true] at C))
  have hq := H.ne (.here _ _) (.here _ _)
  have h3 := Lib.hid (fin_two H (.bool false) (.int .i64 1))
  clear H1 H
  refine ⟨trivial, rfl, calls_in (hno.out.mono ?_)⟩
  rintro e w' ⟨rfl, rfl⟩
  gi_wp2_with fail
  exact leave_ret (passed_results h3.out rfl rfl) ⟨rfl, h3.out.tail.tail⟩
theorem passed_nil (x k : Int) (w : World) {L : List Pc} (H : SL w L) :
    Calls Try.prog 13 #[.pointer none, .int .i64 x, .int .i64 k] w fun e w' => e = .returned (.tuple #[.bool false, .int .i64 1]) ∧ SL w' L :=
  passed_none none x k w H fun W _ => none_nil W
theorem passed_zero (z : Nat) (x k : Int) (w : World) {L : List Pc} (H : SL w (zeroB z :: L)) :
    Calls Try.prog 13 #[.pointer (some ⟨z, 0, none⟩), .int .i64 x, .int .i64 k] w fun e w' => e = .returned (.tuple #[.bool false, .int .i64 1]) ∧ SL w' (zeroB z :: L) :=
  passed_none _ x k w H fun W H => none_zero z 0 none W (by unfold zeroB at H; exact H.cell (.here _ _) rfl)

theorem missing_zero_gives (B z : Nat) :
    GivesS Try.prog 33 #[.pointer (some ⟨B, 0, none⟩)] [] (fun _ => [.blk B [.pointer (some ⟨z, 0, none⟩)] 31, zeroB z]) (fun _ => [.blk B [.pointer (some ⟨z, 0, none⟩)] 31, zeroB z]) := by
  intro l J Z W L0 hY h0 H
  have h0' := Lib.hid h0
  clear hY h0
  refine callsIn_of_wp Try.func33 rfl trivial ?_ rfl
  simp only [Try.ntmps33, List.size_toArray, List.length_cons, List.length_nil, Nat.reduceAdd, Nat.reduceSub, Array.replicate_succ, Array.replicate_zero, List.push_toArray, List.append_toArray, List.nil_append, List.cons_append]
  have hH := Lib.hid H
  simp only [zeroB, List.cons_append, List.nil_append] at H
  (have C := H.cells; dsimp only [cellsOf, Pc.cells, cellsFrom, iset, Nat.zero_add, Nat.reduceAdd] at C; (try simp only [true_and] at C); (try simp only [and_true] at C))
  have hno := Lib.hid (fun k => none_zero z 0 none (W.drewN k) C.2.1.1)
  clear H
  gi_wp2_with (first | refine wpIn_label ?_ | refine scope_in ?_)
  refine wpIn_wide.2 ?_
  go_quiet ((go_at_call 25; exact quiet_eq (hno.out _)))
  gi_wp2_with (first | refine wpIn_label ?_ | refine scope_in ?_)
  repeat (first | rw [Exit.noGoto_ret] | gi_step)
  refine bodyPost_ret (results_none rfl _ _ _) rfl ⟨⟨_, rfl⟩, .inl ⟨L0, h0'.out, hH.out.drewN _⟩⟩

theorem Missing_zero (z : Nat) (w : World) {L : List Pc} (H : SL w (zeroB z :: L)) :
    Calls Try.prog 19 #[.pointer (some ⟨z, 0, none⟩)] w fun e w' => ∃ a c, e = .returned (.slice a 0 c) ∧ SL w' (zeroB z :: L) := by
  have hm := Lib.hid (missing_c z w H)
  go_enter Try.func19, Try.ntmps19
  go_wp2_with fail
  refine hm.out.mono ?_
  rintro e w1 ⟨B, rfl, H1⟩
  have hc := Lib.hid (collect_c (xs := []) (missing_zero_gives B z) egM (by decide) w1 (L := L) H1)
  clear hm H H1
  go_wp2_with fail
  refine hc.out.mono ?_
  rintro e w2 ⟨a', c', rfl, H2⟩
  have H2' := Lib.hid H2
  clear H2
  go_wp2_with fail
  go_ret
  exact ⟨a', c', rfl, H2'.out.re (.drop (.drop (.same _)))⟩

def GoPost (g : Nat) (b : Bool) (n f : Int) (L : List Pc) (e : Ending) (w' : World) : Prop :=
  ((0 ≤ f ∧ (b = true → n < f)) ∧ e = .returned (.bool true) ∧ SL w' (gateB g true f :: L)) ∨ (¬ (0 ≤ f ∧ (b = true → n < f)) ∧ e = .returned (.bool false) ∧ SL w' (gateB g b n :: L))

theorem gate_go (g : Nat) (b : Bool) (n f : Int) (w : World) {L : List Pc} (H : SL w (gateB g b n :: L)) (hg : b = true → 0 ≤ n) :
    Calls Try.prog 8 #[.pointer (some ⟨g, 0, none⟩), .int .i64 f] w (GoPost g b n f L) := by
  have hH := Lib.hid H
  unfold gateB at H
  (have C := H.cells; dsimp only [cellsOf, Pc.cells, cellsFrom, iset, Nat.zero_add, Nat.reduceAdd] at C; (try simp only [true_and] at C); (try simp only [and_true] at C))
  clear H
  by_cases h0 : 0 ≤ f
  · cases b
    · have hf := Lib.hid (((show SL w (.blk g [.bool false, .int .i64 n] 25 :: L) from hH.out).setCell 0 (.bool true)).setCell 1 (.int .i64 f))
      go_enter Try.func8, Try.ntmps8
      go_wp2_with fail
      go_ret
      exact .inl ⟨⟨h0, fun h => by cases h⟩, rfl, hf.out⟩
    · by_cases h1 : n < f
      · have hf := Lib.hid (((show SL w (.blk g [.bool true, .int .i64 n] 25 :: L) from hH.out).setCell 0 (.bool true)).setCell 1 (.int .i64 f))
        have hb : decide (f ≤ n) = false := by simp; omega
        go_enter Try.func8, Try.ntmps8
        go_wp2_with fail
        go_ret
        exact .inl ⟨⟨h0, fun _ => h1⟩, rfl, hf.out⟩
      · have hb : decide (f ≤ n) = true := by simp; omega
        have h1' := Lib.hid h1
        go_enter Try.func8, Try.ntmps8
        go_wp2_with fail
        go_ret
        exact .inr ⟨fun h => by have := h1'.out; have := h.2 rfl; omega, rfl, hH.out⟩
  · have h0' := Lib.hid h0
    go_enter Try.func8, Try.ntmps8
    go_wp2_with fail
    go_ret
    exact .inr ⟨fun h => by have := h0'.out; have := h.1; omega, rfl, hH.out⟩
theorem gate_yes (g : Nat) (b : Bool) (n f : Int) (w : World) {L : List Pc} (H : SL w (gateB g b n :: L)) (hg : b = true → 0 ≤ n) (hf : 0 ≤ f ∧ (b = true → n < f)) :
    Calls Try.prog 8 #[.pointer (some ⟨g, 0, none⟩), .int .i64 f] w fun e w' => e = .returned (.bool true) ∧ SL w' (gateB g true f :: L) :=
  (gate_go g b n f w H hg).mono fun e w' h => by rcases h with ⟨_, h⟩ | ⟨h, _⟩; exact h; exact absurd hf h
theorem gate_no (g : Nat) (b : Bool) (n f : Int) (w : World) {L : List Pc} (H : SL w (gateB g b n :: L)) (hg : b = true → 0 ≤ n) (hf : ¬ (0 ≤ f ∧ (b = true → n < f))) :
    Calls Try.prog 8 #[.pointer (some ⟨g, 0, none⟩), .int .i64 f] w fun e w' => e = .returned (.bool false) ∧ SL w' (gateB g b n :: L) :=
  (gate_go g b n f w H hg).mono fun e w' h => by rcases h with ⟨h, _⟩ | ⟨_, h⟩; exact absurd h hf; exact h
theorem gate_last (g : Nat) (b : Bool) (n : Int) (w : World) {L : List Pc} (H : SL w (gateB g b n :: L)) :
    Calls Try.prog 9 #[.pointer (some ⟨g, 0, none⟩)] w fun e w' => e = .returned (.int .i64 (if b then n else -1)) ∧ w = w' := by
  unfold gateB at H
  (have C := H.cells; dsimp only [cellsOf, Pc.cells, cellsFrom, iset, Nat.zero_add, Nat.reduceAdd] at C; (try simp only [true_and] at C); (try simp only [and_true] at C))
  clear H
  cases b
  · go_enter Try.func9, Try.ntmps9
    go_wp2_with fail
    go_ret
    exact ⟨rfl, rfl⟩
  · go_enter Try.func9, Try.ntmps9
    go_wp2_with fail
    go_ret
    exact ⟨rfl, rfl⟩
theorem gate_go_nil (f : Int) (w : World) : Calls Try.prog 8 #[.pointer none, .int .i64 f] w fun e w' => e = .returned (.bool false) ∧ w = w' := by
  go_enter Try.func8, Try.ntmps8
  go_wp2_with fail
  go_ret
  exact ⟨rfl, rfl⟩
theorem gate_last_nil (w : World) : Calls Try.prog 9 #[.pointer none] w fun e w' => e = .returned (.int .i64 (-1)) ∧ w = w' := by
  go_enter Try.func9, Try.ntmps9
  go_wp2_with fail
  go_ret
  exact ⟨rfl, rfl⟩
theorem bNew_no {ms : List Int} {fr n : Int} {b c : Nat} {w : World} {L : List Pc} (H : SL w (.blk b (iv ms) 3 :: L)) (hl : ms.length ≤ 100) (hb : ¬ Good ms fr n) :
    Calls Try.prog 14 #[.slice (some ⟨b, 0, none⟩) ms.length c, .int .i64 fr, .int .i64 n] w fun e w' => e = .returned (.tuple #[.pointer none, .int .i64 250]) ∧ w = w' :=
  (bNew H hl).mono fun e w' h => by
    rcases h with ⟨_, h⟩ | ⟨h, _⟩
    · exact h
    · exact absurd h hb
theorem bNew_nil (fr n : Int) (w : World) {L : List Pc} (H : SL w L) :
    Calls Try.prog 14 #[.slice none 0 0, .int .i64 fr, .int .i64 n] w fun e w' => e = .returned (.tuple #[.pointer none, .int .i64 250]) ∧ w = w' :=
  (new_c [] fr n none 0 w H (by decide) (fun i hi => by simp at hi)).mono fun e w' h => by
    rcases h with ⟨_, h⟩ | ⟨h, _⟩
    · exact h
    · exact absurd rfl h.2.1
theorem bNew_yes {ms : List Int} {fr n : Int} {b c : Nat} {w : World} {L : List Pc} (H : SL w (.blk b (iv ms) 3 :: L)) (hl : ms.length ≤ 100) (hg : Good ms fr n) :
    Calls Try.prog 14 #[.slice (some ⟨b, 0, none⟩) ms.length c, .int .i64 fr, .int .i64 n] w fun e w' => ∃ p m a c, e = .returned (.tuple #[.pointer (some ⟨p, 0, none⟩), .int .i64 0]) ∧ SL w' (BAR p m a c ms fr fr n (fun _ => false) (.blk b (iv ms) 3 :: L)) :=
  (bNew H hl).mono fun e w' h => by
    rcases h with ⟨h, _⟩ | ⟨_, h⟩
    · exact absurd hg h
    · exact h
theorem bad11 : ¬ Good [1, 1] 0 1 := fun h => by have := (h.1 1 (by decide)).1; simp [prevI] at this
theorem bad64 : ¬ Good [64] 0 1 := fun h => by have := (h.1 0 (by decide)).2; simp at this
theorem bad02 : ¬ Good [0] 2 1 := fun h => by have := h.2.2.2.2.2; omega
theorem bad1001 : ¬ Good [0] 0 1001 := fun h => by have := h.2.2.2.1; omega
theorem good033 : Good [0] 3 3 := ⟨fun k hk => by have : k = 0 := by simp at hk; omega
                                                  subst this; simp [okAt, prevI], by simp, by omega, by omega, by omega, by omega⟩
/-- A call that turns nothing: the pieces lie. -/
theorem keepSL {P : Program} {f : FuncId} {args : Array Value} {w : World} {L : List Pc} {v : Ending} (H : SL w L) (c : Calls P f args w fun e w' => e = v ∧ w = w') : Calls P f args w fun e w' => e = v ∧ SL w' L :=
  c.mono fun _ _ ⟨h1, h2⟩ => ⟨h1, h2 ▸ H⟩
end Go.Proofs.Ytejgkehcplajhaa
