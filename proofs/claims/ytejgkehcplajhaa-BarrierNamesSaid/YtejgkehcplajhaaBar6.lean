/- The walk of barrier's Passed. -/
import Derived.Test.YtejgkehcplajhaaBar4
namespace Go.Proofs.Ytejgkehcplajhaa
open Go.RowKit Go.Shelf
set_option linter.unusedVariables false
attribute [local go_sem] Oper.semAt_some

/-- What Passed answers: the bool, the number of the error, the frame under way and who passed it, then. -/
def passM (fr f n : Int) (ms : List Int) (ps : Int → Bool) (x k : Int) : Bool × Int × Int × (Int → Bool) :=
  if x ∉ ms ∨ k < fr ∨ f < k ∨ k = n then (false, 250, f, ps)
  else if k < f then (false, 0, f, ps)
  else if missL ms (fun y => ps y || y == x) = [] then (true, 0, f + 1, fun _ => false)
  else (false, 0, f, fun y => ps y || y == x)

def PassPost (p len c m : Nat) (a : Option Addr) (fr n : Int) (ms : List Int) (L : List Pc) (r : Bool × Int × Int × (Int → Bool)) (e : Ending) (w' : World) : Prop :=
  e = .returned (.tuple #[.bool r.1, .int .i64 r.2.1]) ∧ SL w' (barB p (.slice a len c) fr r.2.2.1 n m :: iset m r.2.2.2 :: .own 3 1 (.slice a len c) len (iv ms) :: L)

theorem iset_clear {w : World} {b : Nat} {ps : Int → Bool} {L : List Pc} {P : Program} {t K E ty : TypeId} (H : SL w (iset b ps :: L)) (ht : P.underlying t = some (.map K E)) :
    ∃ w', (Builtin.clear_ #[t] ty #[.map (some b)]).run P w = .ok (.tuple #[]) w' ∧ SL w' (iset b (fun _ => false) :: L) := by
  obtain ⟨es, c, hb, h1, h2⟩ : IsetAt w b ps := H.head
  refine ⟨w.putObj b (.map #[] c), ?_, H.upd (Kp.putObj (S := (iset b ps).foot) (Kp.refl _ w) (.inl (show b = b from rfl)) _) ⟨#[], c, World.putObj_heap_same (blk_lt hb), by simp, by simp⟩ fun x hx => .inl hx⟩
  have hg : (getObj b).run P w = .ok (.map es c) w := by simp [getObj, Sem.run, hb]
  have hset : ∀ o : Obj, (setObj b o).run P w = .ok () (w.putObj b o) := fun o => by simp [setObj, Sem.run, World.putObj, hb]
  simp [Builtin.clear_, run_underlying ht, hg, hset]

theorem fin_two {W : World} {q1 q2 : Nat} {x0 y0 : Value} {t1 t2 : TypeId} {rest : List Pc} (H : SL W (.blk q2 [y0] t2 :: .blk q1 [x0] t1 :: rest)) (u v : Value) :
    SL ((W.setCell ⟨q1, 0, none⟩ u).setCell ⟨q2, 0, none⟩ v) (.blk q2 [v] t2 :: .blk q1 [u] t1 :: rest) :=
  (((H.pull (.there (.here _ _))).setCell 0 u).pull (.there (.here _ _))).setCell 0 v

theorem passed_results {W : World} {q1 q2 : Nat} {vb : Bool} {ve : Int} {rest : List Pc} (H : SL W (.blk q2 [.int .i64 ve] 40 :: .blk q1 [.bool vb] 4 :: rest)) {tmps : Array Value}
    (h6 : tmps.getD 6 undef = .pointer (some ⟨q1, 0, none⟩)) (h7 : tmps.getD 7 undef = .pointer (some ⟨q2, 0, none⟩)) :
    (results Try.f13 tmps).run Try.prog W = .ok (.tuple #[.bool vb, .int .i64 ve]) W := by
  (have C := H.cells; dsimp only [cellsOf, Pc.cells, cellsFrom, iset, Nat.zero_add, Nat.reduceAdd] at C; (try simp only [true_and] at C); (try simp only [and_true] at C))
  have h6' : tmps[6]?.getD undef = .pointer (some ⟨q1, 0, none⟩) := by simpa using h6
  have h7' : tmps[7]?.getD undef = .pointer (some ⟨q2, 0, none⟩) := by simpa using h7
  simp [results, Try.results13, go_sem, C, h6', h7']

set_option maxHeartbeats 2000000 in
theorem Passed_c (p len c m : Nat) (a : Option Addr) (fr f n x k : Int) (ms : List Int) (ps : Int → Bool) (hlen : 1 ≤ len) (hlm : len ≤ 1000000) (hf : f ≤ 1000000) (hf0 : 0 ≤ f) (w : World) {L : List Pc}
    (H : SL w (barB p (.slice a len c) fr f n m :: iset m ps :: .own 3 1 (.slice a len c) len (iv ms) :: L)) :
    Calls Try.prog 13 #[.pointer (some ⟨p, 0, none⟩), .int .i64 x, .int .i64 k] w (PassPost p len c m a fr n ms L (passM fr f n ms ps x k)) := by
  refine calls_of_marks Try.func13 rfl ?_
  simp only [Try.ntmps13, List.size_toArray, List.length_cons, List.length_nil, Nat.reduceAdd, Nat.reduceSub, Array.replicate_succ, Array.replicate_zero, List.push_toArray, List.append_toArray, List.nil_append, List.cons_append]
  gi_wp2_with fail
  have H1 := (H.alloc [.bool false] 4).alloc [.int .i64 0] 40
  rw [World.size_alloc] at H1
  generalize (w.alloc (.cells [Value.bool false].toArray 4)).alloc (.cells [Value.int .i64 0].toArray 40) = w1 at *
  generalize w.heap.size + 1 = q2 at *
  generalize w.heap.size = q1 at *
  clear H
  unfold barB at H1
  have H := H1
  (have C := H.cells; dsimp only [cellsOf, Pc.cells, cellsFrom, iset, Nat.zero_add, Nat.reduceAdd] at C; (try simp only [true_and] at C); (try simp only [and_true] at C))
  have H2 := Lib.hid H
  have hq := H.ne (.here _ _) (.here _ _)
  clear H1
  obtain ⟨-, hl, hrd⟩ := OwnK.rdI (H.ownOf (by first | exact .here _ _ | exact .there (.here _ _) | exact .there (.there (.here _ _)) | exact .there (.there (.there (.here _ _))) | exact .there (.there (.there (.there (.here _ _)))) | exact .there (.there (.there (.there (.there (.here _ _))))) | exact .there (.there (.there (.there (.there (.there (.here _ _)))))) | exact .there (.there (.there (.there (.there (.there (.there (.here _ _))))))) | exact .there (.there (.there (.there (.there (.there (.there (.there (.here _ _)))))))) | exact .there (.there (.there (.there (.there (.there (.there (.there (.there (.here _ _))))))))) | exact .there (.there (.there (.there (.there (.there (.there (.there (.there (.there (.here _ _)))))))))) | exact .there (.there (.there (.there (.there (.there (.there (.there (.there (.there (.there (.here _ _))))))))))) | exact .there (.there (.there (.there (.there (.there (.there (.there (.there (.there (.there (.there (.here _ _)))))))))))) | exact .there (.there (.there (.there (.there (.there (.there (.there (.there (.there (.there (.there (.there (.here _ _)))))))))))))))
  have hno := Lib.hid (none_c p len c a w1 C.2.2.1.1 hlen)
  have hco := Lib.hid (contains_c x ms a c w1 (by omega) hrd)
  rw [← hl] at hco
  clear H hrd hl
  refine ⟨trivial, rfl, calls_in (hno.out.mono ?_)⟩
  rintro e w' ⟨rfl, rfl⟩
  clear hno
  obtain ⟨r, hr⟩ : ∃ r, passM fr f n ms ps x k = r := ⟨_, rfl⟩
  have hr0 := hr
  have fin : ∀ (vb : Bool) (ve : Int) (tmps : Array Value), r = (vb, ve, f, ps) → tmps.getD 6 undef = .pointer (some ⟨q1, 0, none⟩) → tmps.getD 7 undef = .pointer (some ⟨q2, 0, none⟩) →
      bodyPostM Fence.wide 0 Try.prog Try.f13 (PassPost p len c m a fr n ms L (passM fr f n ms ps x k)) .ret { tmps := tmps, defers := [] } ((w1.setCell ⟨q1, 0, none⟩ (.bool vb)).setCell ⟨q2, 0, none⟩ (.int .i64 ve)) := fun vb ve tmps e h6 h7 => by
    have h3 := fin_two H2.out (.bool vb) (.int .i64 ve)
    refine leave_ret (passed_results h3 h6 h7) ?_
    rw [hr, e]
    exact ⟨rfl, h3.tail.tail⟩
  have fin' := Lib.hid fin
  have hrr0 := Lib.hid hr
  clear fin hr
  unfold passM at hr0
  by_cases hx : x ∈ ms
  · rw [show decide (x ∈ ms) = true by simpa using hx] at hco
    have hx' := Lib.hid hx
    have hr' := Lib.hid hr0
    clear hx hr0
    gi_wp2_with fail
    refine ⟨trivial, rfl, calls_in (hco.out.mono ?_)⟩
    rintro e w' ⟨rfl, rfl⟩
    by_cases h1 : k < fr
    · have hb1 : decide (k < fr) = true := by simpa using h1
      have hrr := Lib.hid (show r = (false, 250, f, ps) from hr'.out.symm.trans (if_pos (.inr (.inl h1))))
      gi_wp2_with fail
      exact fin'.out _ _ _ hrr.out rfl rfl
    · have hb1 : decide (k < fr) = false := by simpa using h1
      by_cases h2 : f < k
      · have hb2 : decide (f < k) = true := by simpa using h2
        have hrr := Lib.hid (show r = (false, 250, f, ps) from hr'.out.symm.trans (if_pos (.inr (.inr (.inl h2)))))
        gi_wp2_with fail
        exact fin'.out _ _ _ hrr.out rfl rfl
      · have hb2 : decide (f < k) = false := by simpa using h2
        by_cases h3 : k = n
        · have hb3 : (k == n) = true := by simpa using h3
          have hrr := Lib.hid (show r = (false, 250, f, ps) from hr'.out.symm.trans (if_pos (.inr (.inr (.inr h3)))))
          clear h3
          gi_wp2_with fail
          exact fin'.out _ _ _ hrr.out rfl rfl
        · have hb3 : (k == n) = false := by simpa using h3
          have hr2 := Lib.hid (hr'.out.symm.trans (if_neg (by simp only [hx'.out, not_true_eq_false, h1, h2, h3, or_self, not_false_eq_true])))
          have h3' := h3
          clear h3
          by_cases h4 : k < f
          · have hb4 : decide (k < f) = true := by simpa using h4
            have hrr := Lib.hid (show r = (false, 0, f, ps) from hr2.out.trans (if_pos h4))
            gi_wp2_with fail
            exact fin'.out _ _ _ hrr.out rfl rfl
          · have hb4 : decide (k < f) = false := by simpa using h4
            have hr3 := Lib.hid (hr2.out.trans (if_neg h4))
            have hfn : f ≠ n := fun e => h3' (by omega)
            have hu := Lib.hid (fun (V : World) (LL : List Pc) (hh : SL V (iset m ps :: LL)) => iset_update hh Try.underlying63 Try.underlying3 x)
            obtain ⟨w3, hw3, H5⟩ := hu.out w1 _ (H2.out.pull (.there (.there (.there (.here _ _)))))
            clear hu fin'
            gi_wp2_with fail
            obtain ⟨ps', hps⟩ : ∃ ps', (fun y => ps y || y == x) = ps' := ⟨_, rfl⟩
            rw [hps] at H5 hr3
            have hg := Lib.hid (fun B => missing_gives B p len c m a fr f n ms ps' hlen hlm hfn)
            have hm := Lib.hid (missing_c p w3 H5)
            clear H5 C hco h3' hw3 hps hr2 hr' H2
            refine ⟨trivial, rfl, calls_in (hm.out.mono ?_)⟩
            rintro e w4 ⟨B, rfl, H6⟩
            clear hm
            have H7 : SL w4 ((.blk q2 [.int .i64 0] 40 :: .blk q1 [.bool false] 4 :: L) ++ missP B p len c m a fr f n ms ps') := by
              have h := H6.re (L' := .blk q2 [.int .i64 0] 40 :: .blk q1 [.bool false] 4 :: .blk B [.pointer (some ⟨p, 0, none⟩)] 31 :: barB p (.slice a len c) fr f n m :: iset m ps' :: .own 3 1 (.slice a len c) len (iv ms) :: L)
                (.step (.there (.there (.here _ _))) (.step (.there (.there (.here _ _))) (.step (.here _ _) (.step (.there (.here _ _)) (.step (.here _ _) (.same _))))))
              exact h.perm (((List.perm_append_comm (l₁ := missP B p len c m a fr f n ms ps') (l₂ := L)).cons _).cons _)
            clear H6
            gi_wp2_with fail
            refine wp_rangeS rfl egM (hg.out B) (by simp [missX]) (fun i L' => i = 0 ∧ L' = .blk q2 [.int .i64 0] 40 :: .blk q1 [.bool false] 4 :: L)
              (fun c i L' => c = .ret ∧ missL ms ps' ≠ [] ∧ L' = .blk q2 [.int .i64 0] 40 :: .blk q1 [.bool false] 4 :: L) ⟨rfl, rfl⟩ H7 ?_ ?_ ?_
            · rintro i hi V l _ T ⟨rfl, rfl⟩ H
              have hne : missL ms ps' ≠ [] := by
                intro e; simp [missX, e] at hi
              obtain ⟨y, hy⟩ : ∃ y, (missX ms ps')[0]'hi = #[.int .i64 y] := ⟨_, by simp only [missX, List.getElem_map]; rfl⟩
              rw [hy]
              clear hy
              gi_wp2_with fail
              refine ⟨_, H, ?_⟩
              clear H H7
              intro V2 T2 H
              simp only [List.cons_append] at H
              (have C := H.cells; dsimp only [cellsOf, Pc.cells, cellsFrom, iset, Nat.zero_add, Nat.reduceAdd] at C; (try simp only [true_and] at C); (try simp only [and_true] at C))
              have H8 := Lib.hid (fin_two H (.bool false) (.int .i64 0))
              clear H
              gi_wp2_with fail
              exact ⟨_, ⟨rfl, hne, rfl⟩, H8.out⟩
            · rintro V _ D ⟨h0, rfl⟩ H
              have hnil : missL ms ps' = [] := by
                have : (missX ms ps').length = 0 := h0
                simpa [missX] using this
              have hrr := Lib.hid (show r = (true, 0, f + 1, fun _ => false) from hr3.out.trans (if_pos hnil))
              have hwr : wrap64 (f + 1) = f + 1 := by unfold wrap64; omega
              have H9 : SL V (barB p (.slice a len c) fr f n m :: .blk q2 [.int .i64 0] 40 :: .blk q1 [.bool false] 4 :: .obj D (.deferred (some [])) :: iset m ps' :: .own 3 1 (.slice a len c) len (iv ms) :: L) := by
                have H := H.perm (((List.perm_append_comm (l₁ := .blk q2 [.int .i64 0] 40 :: .blk q1 [.bool false] 4 :: L) (l₂ := missP B p len c m a fr f n ms ps'))).cons _)
                exact H.re (.step (.there (.there (.here _ _))) (.step (.there (.there (.there (.there (.here _ _))))) (.step (.there (.there (.there (.there (.here _ _))))) (.step (.here _ _) (.drop (.same _))))))
              clear H H7 hg hr3 hnil
              have H := H9
              unfold barB at H
              have hq1 := H.ne (.here _ _) (.here _ _)
              have hq2 := H.ne (.here _ _) (.there (.here _ _))
              (have C := H.cells; dsimp only [cellsOf, Pc.cells, cellsFrom, iset, Nat.zero_add, Nat.reduceAdd] at C; (try simp only [true_and] at C); (try simp only [and_true] at C))
              have H10 := H.setCell 2 (.int .i64 (f + 1))
              obtain ⟨w5, hw5, H11⟩ := iset_clear (P := Try.prog) (ty := 0) (H10.pull (.there (.there (.there (.there (.here _ _)))))) Try.underlying63
              have H11' := Lib.hid H11
              clear H
              have H := H11
              (have C := H.cells; dsimp only [cellsOf, Pc.cells, cellsFrom, iset, Nat.zero_add, Nat.reduceAdd] at C; (try simp only [true_and] at C); (try simp only [and_true] at C))
              clear H10 H9 H11 H
              gi_wp2_with fail
              have H12 := fin_two (H11'.out.re (L' := .blk q2 [.int .i64 0] 40 :: .blk q1 [.bool false] 4 :: .obj D (.deferred (some [])) :: barB p (.slice a len c) fr (f + 1) n m :: iset m (fun _ => false) :: .own 3 1 (.slice a len c) len (iv ms) :: L)
                (.step (.there (.there (.here _ _))) (.step (.there (.there (.here _ _))) (.step (.there (.there (.here _ _))) (.step (.there (.here _ _)) (.same _)))))) (.bool true) (.int .i64 0)
              refine leaveS (v := .tuple #[.bool true, .int .i64 0]) (H12.re (L' := .obj D (.deferred (some [])) :: .blk q2 [.int .i64 0] 40 :: .blk q1 [.bool true] 4 :: barB p (.slice a len c) fr (f + 1) n m :: iset m (fun _ => false) :: .own 3 1 (.slice a len c) len (iv ms) :: L) (.step (.there (.there (.here _ _))) (.same _))) ?_ ?_
              · intro V H
                exact passed_results H rfl rfl
              · intro V H
                rw [hrr0.out, hrr.out]
                exact ⟨rfl, H.tail.tail⟩
            · rintro c i V _ D ⟨rfl, hne, rfl⟩ H
              have hrr := Lib.hid (show r = (false, 0, f, ps') from hr3.out.trans (if_neg hne))
              have H9 : SL V (.blk q2 [.int .i64 0] 40 :: .blk q1 [.bool false] 4 :: .obj D (.deferred (some [])) :: barB p (.slice a len c) fr f n m :: iset m ps' :: .own 3 1 (.slice a len c) len (iv ms) :: L) := by
                have H := H.perm (((List.perm_append_comm (l₁ := .blk q2 [.int .i64 0] 40 :: .blk q1 [.bool false] 4 :: L) (l₂ := missP B p len c m a fr f n ms ps'))).cons _)
                exact H.re (.step (.there (.there (.there (.there (.there (.here _ _)))))) (.step (.there (.there (.there (.there (.there (.here _ _)))))) (.step (.here _ _) (.drop (.same _)))))
              clear H7 hg H
              gi_wp2_with fail
              refine leaveS (v := .tuple #[.bool false, .int .i64 0]) (H9.re (L' := .obj D (.deferred (some [])) :: .blk q2 [.int .i64 0] 40 :: .blk q1 [.bool false] 4 :: barB p (.slice a len c) fr f n m :: iset m ps' :: .own 3 1 (.slice a len c) len (iv ms) :: L) (.step (.there (.there (.here _ _))) (.same _))) ?_ ?_
              · intro V H
                exact passed_results H rfl rfl
              · intro V H
                rw [hrr0.out, hrr.out]
                exact ⟨rfl, H.tail.tail⟩
  · rw [if_pos (.inl hx)] at hr0
    have hr' := Lib.hid hr0
    rw [show decide (x ∈ ms) = false by simpa using hx] at hco
    clear hr0 hx
    gi_wp2_with fail
    refine ⟨trivial, rfl, calls_in (hco.out.mono ?_)⟩
    rintro e w' ⟨rfl, rfl⟩
    gi_wp2_with fail
    exact fin'.out _ _ _ hr'.out.symm rfl rfl
end Go.Proofs.Ytejgkehcplajhaa
