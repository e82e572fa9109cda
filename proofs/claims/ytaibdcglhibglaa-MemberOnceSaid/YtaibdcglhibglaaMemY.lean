/- The walk of Ready. -/
import Derived.Test.YtaibdcglhibglaaMemR
namespace Go.Proofs.Ytaibdcglhibglaa
open Go.RowKit Go.Shelf
set_option linter.unusedVariables false
attribute [local go_sem] Oper.semAt_some

theorem egM : ∀ args w, (callFunc 55 args).run Try.prog w = .ok (.enter 55 args) w := enters_of Try.func55 (by kernel_rfl) rfl

/-- What Ready answers. -/
def St.ready (x : St) : Int × Bool := if x.By = x.self ∧ x.disp ∈ x.ms ∧ missL x.ms x.ps = [] then (x.count, true) else (0, false)

theorem fin_two {W : World} {q1 q2 : Nat} {x0 y0 : Value} {t1 t2 : TypeId} {rest : List Pc} (H : SL W (.blk q2 [y0] t2 :: .blk q1 [x0] t1 :: rest)) (u v : Value) :
    SL ((W.setCell ⟨q1, 0, none⟩ u).setCell ⟨q2, 0, none⟩ v) (.blk q2 [v] t2 :: .blk q1 [u] t1 :: rest) :=
  (((H.pull (.there (.here _ _))).setCell 0 u).pull (.there (.here _ _))).setCell 0 v

theorem ready_results {W : World} {q1 q2 : Nat} {vb : Bool} {ve : Int} {rest : List Pc} (H : SL W (.blk q2 [.bool vb] 4 :: .blk q1 [.int .i64 ve] 3 :: rest)) {tmps : Array Value}
    (h2 : tmps.getD 2 undef = .pointer (some ⟨q1, 0, none⟩)) (h3 : tmps.getD 3 undef = .pointer (some ⟨q2, 0, none⟩)) :
    (results Try.f25 tmps).run Try.prog W = .ok (.tuple #[.int .i64 ve, .bool vb]) W := by
  (have C := H.cells; dsimp only [cellsOf, Pc.cells, cellsFrom, iset, Nat.zero_add, Nat.reduceAdd] at C; (try simp only [true_and] at C); (try simp only [and_true] at C))
  have h2' : tmps[2]?.getD undef = .pointer (some ⟨q1, 0, none⟩) := by simpa using h2
  have h3' : tmps[3]?.getD undef = .pointer (some ⟨q2, 0, none⟩) := by simpa using h3
  simp [results, Try.results25, go_sem, C, h2', h3']

def ReadyPost (p : Nat) (a : Option Addr) (c0 b : Nat) (x : St) (L : List Pc) (y : Int × Bool) (r : Ending) (w' : World) : Prop :=
  r = .returned (.tuple #[.int .i64 y.1, .bool y.2]) ∧ SL w' (MS p a c0 b x L)

set_option maxHeartbeats 4000000 in
theorem ready_c {p : Nat} {a : Option Addr} {c0 b : Nat} (x : St) {L : List Pc} {w : World} (H : SL w (MS p a c0 b x L)) (hn : 1 ≤ x.nodes) (hm : x.ms.length ≤ 1000000) :
    Calls Try.prog 25 #[.pointer (some ⟨p, 0, none⟩)] w (ReadyPost p a c0 b x L x.ready) := by
  obtain ⟨self, nodes, disp, N, By, ms, gN, gBy, owes, ps, count⟩ := x
  dsimp only at hn hm
  obtain ⟨Y, hY⟩ : ∃ Y, St.ready ⟨self, nodes, disp, N, By, ms, gN, gBy, owes, ps, count⟩ = Y := ⟨_, rfl⟩
  rw [hY]
  unfold St.ready at hY
  dsimp only at hY
  have hY' := Lib.hid hY
  clear hY
  refine calls_of_marks Try.func25 rfl ?_
  simp only [Try.ntmps25, List.size_toArray, List.length_cons, List.length_nil, Nat.reduceAdd, Nat.reduceSub, Array.replicate_succ, Array.replicate_zero, List.push_toArray, List.append_toArray, List.nil_append, List.cons_append]
  gi_wp2_with fail
  have H1 := (H.alloc [.int .i64 0] 3).alloc [.bool false] 4
  rw [World.size_alloc] at H1
  generalize (w.alloc (.cells [Value.int .i64 0].toArray 3)).alloc (.cells [Value.bool false].toArray 4) = w1 at *
  generalize w.heap.size + 1 = q2 at *
  generalize w.heap.size = q1 at *
  have hnz : (nodes == 0) = false := by simp; omega
  have hno := Lib.hid (fun V L (h : SL V (memB p self nodes disp N By (.slice a ms.length c0) gN gBy owes (.map (some b)) count :: L)) => none_c h)
  rw [hnz] at hno
  have hcon := Lib.hid (fun V (h : SL V [.own 3 1 (.slice a ms.length c0) ms.length (iv ms)]) => contains_c disp ms a c0 V (by omega) (OwnK.rdI (show OwnK V 0 3 1 _ _ (iv ms) from h.ownOf (.here _ _))).2.2)
  have hH0 : SL w1 (.blk q2 [.bool false] 4 :: .blk q1 [.int .i64 0] 3 :: memB p self nodes disp N By (.slice a ms.length c0) gN gBy owes (.map (some b)) count :: .own 3 1 (.slice a ms.length c0) ms.length (iv ms) :: iset b ps :: L) := H1
  obtain ⟨mlen, hmlen⟩ : ∃ len, ms.length = len := ⟨_, rfl⟩
  have hback : Hid (∀ V q q', SL V (q :: q' :: memB p self nodes disp N By (.slice a mlen c0) gN gBy owes (.map (some b)) count :: .own 3 1 (.slice a mlen c0) mlen (iv ms) :: iset b ps :: L) → SL V (MS p a c0 b ⟨self, nodes, disp, N, By, ms, gN, gBy, owes, ps, count⟩ L)) := Lib.hid fun V q q' h => by
    subst hmlen
    exact h.re (.drop (.drop (.same _)))
  rw [hmlen] at hno hcon hH0 hm
  have hH := Lib.hid hH0
  have hg := Lib.hid (fun B => missing_gives (self := self) (nodes := nodes) (disp := disp) (N := N) (By := By) (gN := gN) (gBy := gBy) (count := count) (owes := owes) B p c0 b mlen a ms ps hm)
  obtain ⟨q5, e5⟩ : ∃ q, decide (disp ∈ ms) = q := ⟨_, rfl⟩
  have e5' := Lib.hid e5
  simp only [e5] at hcon
  have hq := hH0.ne (.here _ _) (.here _ _)
  have p0 := hH0.cell (b := p) (o := 0) (by first | exact .here _ _ | exact .there (.here _ _) | exact .there (.there (.here _ _)) | exact .there (.there (.there (.here _ _))) | exact .there (.there (.there (.there (.here _ _)))) | exact .there (.there (.there (.there (.there (.here _ _))))) | exact .there (.there (.there (.there (.there (.there (.here _ _)))))) | exact .there (.there (.there (.there (.there (.there (.there (.here _ _))))))) | exact .there (.there (.there (.there (.there (.there (.there (.there (.here _ _)))))))) | exact .there (.there (.there (.there (.there (.there (.there (.there (.there (.here _ _))))))))) | exact .there (.there (.there (.there (.there (.there (.there (.there (.there (.there (.here _ _)))))))))) | exact .there (.there (.there (.there (.there (.there (.there (.there (.there (.there (.there (.here _ _))))))))))) | exact .there (.there (.there (.there (.there (.there (.there (.there (.there (.there (.there (.there (.here _ _)))))))))))) | exact .there (.there (.there (.there (.there (.there (.there (.there (.there (.there (.there (.there (.there (.here _ _)))))))))))))) rfl
  have p2 := hH0.cell (b := p) (o := 2) (by first | exact .here _ _ | exact .there (.here _ _) | exact .there (.there (.here _ _)) | exact .there (.there (.there (.here _ _))) | exact .there (.there (.there (.there (.here _ _)))) | exact .there (.there (.there (.there (.there (.here _ _))))) | exact .there (.there (.there (.there (.there (.there (.here _ _)))))) | exact .there (.there (.there (.there (.there (.there (.there (.here _ _))))))) | exact .there (.there (.there (.there (.there (.there (.there (.there (.here _ _)))))))) | exact .there (.there (.there (.there (.there (.there (.there (.there (.there (.here _ _))))))))) | exact .there (.there (.there (.there (.there (.there (.there (.there (.there (.there (.here _ _)))))))))) | exact .there (.there (.there (.there (.there (.there (.there (.there (.there (.there (.there (.here _ _))))))))))) | exact .there (.there (.there (.there (.there (.there (.there (.there (.there (.there (.there (.there (.here _ _)))))))))))) | exact .there (.there (.there (.there (.there (.there (.there (.there (.there (.there (.there (.there (.there (.here _ _)))))))))))))) rfl
  have p4 := hH0.cell (b := p) (o := 4) (by first | exact .here _ _ | exact .there (.here _ _) | exact .there (.there (.here _ _)) | exact .there (.there (.there (.here _ _))) | exact .there (.there (.there (.there (.here _ _)))) | exact .there (.there (.there (.there (.there (.here _ _))))) | exact .there (.there (.there (.there (.there (.there (.here _ _)))))) | exact .there (.there (.there (.there (.there (.there (.there (.here _ _))))))) | exact .there (.there (.there (.there (.there (.there (.there (.there (.here _ _)))))))) | exact .there (.there (.there (.there (.there (.there (.there (.there (.there (.here _ _))))))))) | exact .there (.there (.there (.there (.there (.there (.there (.there (.there (.there (.here _ _)))))))))) | exact .there (.there (.there (.there (.there (.there (.there (.there (.there (.there (.there (.here _ _))))))))))) | exact .there (.there (.there (.there (.there (.there (.there (.there (.there (.there (.there (.there (.here _ _)))))))))))) | exact .there (.there (.there (.there (.there (.there (.there (.there (.there (.there (.there (.there (.there (.here _ _)))))))))))))) rfl
  have p5 := hH0.cell (b := p) (o := 5) (by first | exact .here _ _ | exact .there (.here _ _) | exact .there (.there (.here _ _)) | exact .there (.there (.there (.here _ _))) | exact .there (.there (.there (.there (.here _ _)))) | exact .there (.there (.there (.there (.there (.here _ _))))) | exact .there (.there (.there (.there (.there (.there (.here _ _)))))) | exact .there (.there (.there (.there (.there (.there (.there (.here _ _))))))) | exact .there (.there (.there (.there (.there (.there (.there (.there (.here _ _)))))))) | exact .there (.there (.there (.there (.there (.there (.there (.there (.there (.here _ _))))))))) | exact .there (.there (.there (.there (.there (.there (.there (.there (.there (.there (.here _ _)))))))))) | exact .there (.there (.there (.there (.there (.there (.there (.there (.there (.there (.there (.here _ _))))))))))) | exact .there (.there (.there (.there (.there (.there (.there (.there (.there (.there (.there (.there (.here _ _)))))))))))) | exact .there (.there (.there (.there (.there (.there (.there (.there (.there (.there (.there (.there (.there (.here _ _)))))))))))))) rfl
  have no' := Lib.hid (fun k => hno.out (w1.drewN k) _ ((hH.out.drewN k).re (.step (.there (.there (.here _ _))) (.same _))))
  have co' := Lib.hid (fun k => hcon.out (w1.drewN k) ((hH.out.drewN k).re (.step (.there (.there (.there (.here _ _)))) (.done _))))
  clear H H1 hH0 hm hn hnz hmlen e5 hno hcon
  by_cases h1 : By = self ∧ q5 = true
  · obtain ⟨h1a, rfl⟩ := h1
    have h1b : (By != self) = false := by simpa using h1a
    have hY3 : (if missL ms ps = [] then (count, true) else (0, false)) = Y := by
      rw [← hY'.out]
      have h2 : disp ∈ ms := of_decide_eq_true e5'.out
      by_cases h3 : missL ms ps = []
      · rw [if_pos h3, if_pos ⟨h1a, h2, h3⟩]
      · rw [if_neg h3, if_neg (fun h => h3 h.2.2)]
    have hYY := Lib.hid hY3
    clear hY' hY3 h1a
    refine wpIn_wide.2 ?_
    go_quiet ((first | (go_at_call 32; exact quiet_eq (no'.out _)) | (go_at_call 38; exact quiet_eq (co'.out _))))
    have H2 := hH.out.drewN nq
    generalize w1.drewN nq = w2 at *
    have hmi := Lib.hid (missing_c p w2 H2)
    clear H2 p0 p2 p4 p5 hH
    gi_wp2_with fail
    refine ⟨trivial, rfl, calls_in (hmi.out.mono ?_)⟩
    rintro e w3 ⟨B, rfl, H3⟩
    have H4 : SL w3 ((.blk q2 [.bool false] 4 :: .blk q1 [.int .i64 0] 3 :: L) ++ missP B p c0 b mlen a self nodes disp N By gN gBy count owes ms ps) := by
      have h := H3.re (L' := .blk q2 [.bool false] 4 :: .blk q1 [.int .i64 0] 3 :: .blk B [.pointer (some ⟨p, 0, none⟩)] 35 :: memB p self nodes disp N By (.slice a mlen c0) gN gBy owes (.map (some b)) count :: .own 3 1 (.slice a mlen c0) mlen (iv ms) :: iset b ps :: L)
        (.step (.there (.here _ _)) (.step (.there (.here _ _)) (.step (.here _ _) (.same _))))
      exact h.perm (((List.perm_append_comm (l₁ := missP B p c0 b mlen a self nodes disp N By gN gBy count owes ms ps) (l₂ := L)).cons _).cons _)
    clear H3 hmi
    gi_wp2_with fail
    refine wp_rangeS rfl egM (hg.out B) (by simp [missX]) (fun i L' => i = 0 ∧ L' = .blk q2 [.bool false] 4 :: .blk q1 [.int .i64 0] 3 :: L)
      (fun c i L' => c = .ret ∧ missL ms ps ≠ [] ∧ L' = .blk q2 [.bool false] 4 :: .blk q1 [.int .i64 0] 3 :: L) ⟨rfl, rfl⟩ H4 ?_ ?_ ?_
    · rintro i hi V l _ T ⟨rfl, rfl⟩ H
      have hne : missL ms ps ≠ [] := by
        intro e; simp [missX, e] at hi
      obtain ⟨y, hy⟩ : ∃ y, (missX ms ps)[0]'hi = #[.int .i64 y] := ⟨_, by simp only [missX, List.getElem_map]; rfl⟩
      rw [hy]
      clear hy
      gi_wp2_with fail
      refine ⟨_, H, ?_⟩
      clear H H4
      intro V2 T2 H
      simp only [List.cons_append] at H
      (have C := H.cells; dsimp only [cellsOf, Pc.cells, cellsFrom, iset, Nat.zero_add, Nat.reduceAdd] at C; (try simp only [true_and] at C); (try simp only [and_true] at C))
      have H8 := Lib.hid (fin_two H (.int .i64 0) (.bool false))
      clear H
      gi_wp2_with fail
      exact ⟨_, ⟨rfl, hne, rfl⟩, H8.out⟩
    · rintro V _ D ⟨h0, rfl⟩ H
      have hnil : missL ms ps = [] := by
        have : (missX ms ps).length = 0 := h0
        simpa [missX] using this
      have hfin := Lib.hid (show Y = (count, true) from by rw [← hYY.out, if_pos hnil])
      have H9 : SL V (.blk q2 [.bool false] 4 :: .blk q1 [.int .i64 0] 3 :: .obj D (.deferred (some [])) :: memB p self nodes disp N By (.slice a mlen c0) gN gBy owes (.map (some b)) count :: .own 3 1 (.slice a mlen c0) mlen (iv ms) :: iset b ps :: L) := by
        have H := H.perm (((List.perm_append_comm (l₁ := .blk q2 [.bool false] 4 :: .blk q1 [.int .i64 0] 3 :: L) (l₂ := missP B p c0 b mlen a self nodes disp N By gN gBy count owes ms ps))).cons _)
        exact H.re (.step (.there (.there (.there (.there (.there (.here _ _)))))) (.step (.there (.there (.there (.there (.there (.here _ _)))))) (.step (.here _ _) (.drop (.same _)))))
      clear H H4 hg hYY hnil
      have z1 := H9.cell (b := q1) (o := 0) (by first | exact .here _ _ | exact .there (.here _ _) | exact .there (.there (.here _ _)) | exact .there (.there (.there (.here _ _))) | exact .there (.there (.there (.there (.here _ _)))) | exact .there (.there (.there (.there (.there (.here _ _))))) | exact .there (.there (.there (.there (.there (.there (.here _ _)))))) | exact .there (.there (.there (.there (.there (.there (.there (.here _ _))))))) | exact .there (.there (.there (.there (.there (.there (.there (.there (.here _ _)))))))) | exact .there (.there (.there (.there (.there (.there (.there (.there (.there (.here _ _))))))))) | exact .there (.there (.there (.there (.there (.there (.there (.there (.there (.there (.here _ _)))))))))) | exact .there (.there (.there (.there (.there (.there (.there (.there (.there (.there (.there (.here _ _))))))))))) | exact .there (.there (.there (.there (.there (.there (.there (.there (.there (.there (.there (.there (.here _ _)))))))))))) | exact .there (.there (.there (.there (.there (.there (.there (.there (.there (.there (.there (.there (.there (.here _ _)))))))))))))) rfl
      have z2 := H9.cell (b := q2) (o := 0) (by first | exact .here _ _ | exact .there (.here _ _) | exact .there (.there (.here _ _)) | exact .there (.there (.there (.here _ _))) | exact .there (.there (.there (.there (.here _ _)))) | exact .there (.there (.there (.there (.there (.here _ _))))) | exact .there (.there (.there (.there (.there (.there (.here _ _)))))) | exact .there (.there (.there (.there (.there (.there (.there (.here _ _))))))) | exact .there (.there (.there (.there (.there (.there (.there (.there (.here _ _)))))))) | exact .there (.there (.there (.there (.there (.there (.there (.there (.there (.here _ _))))))))) | exact .there (.there (.there (.there (.there (.there (.there (.there (.there (.there (.here _ _)))))))))) | exact .there (.there (.there (.there (.there (.there (.there (.there (.there (.there (.there (.here _ _))))))))))) | exact .there (.there (.there (.there (.there (.there (.there (.there (.there (.there (.there (.there (.here _ _)))))))))))) | exact .there (.there (.there (.there (.there (.there (.there (.there (.there (.there (.there (.there (.there (.here _ _)))))))))))))) rfl
      have f1 := H9.free (b := q1) (by first | exact .here _ _ | exact .there (.here _ _) | exact .there (.there (.here _ _)) | exact .there (.there (.there (.here _ _))) | exact .there (.there (.there (.there (.here _ _)))) | exact .there (.there (.there (.there (.there (.here _ _))))) | exact .there (.there (.there (.there (.there (.there (.here _ _)))))) | exact .there (.there (.there (.there (.there (.there (.there (.here _ _))))))) | exact .there (.there (.there (.there (.there (.there (.there (.there (.here _ _)))))))) | exact .there (.there (.there (.there (.there (.there (.there (.there (.there (.here _ _))))))))) | exact .there (.there (.there (.there (.there (.there (.there (.there (.there (.there (.here _ _)))))))))) | exact .there (.there (.there (.there (.there (.there (.there (.there (.there (.there (.there (.here _ _))))))))))) | exact .there (.there (.there (.there (.there (.there (.there (.there (.there (.there (.there (.there (.here _ _)))))))))))) | exact .there (.there (.there (.there (.there (.there (.there (.there (.there (.there (.there (.there (.there (.here _ _)))))))))))))) 0
      have f2 := H9.free (b := q2) (by first | exact .here _ _ | exact .there (.here _ _) | exact .there (.there (.here _ _)) | exact .there (.there (.there (.here _ _))) | exact .there (.there (.there (.there (.here _ _)))) | exact .there (.there (.there (.there (.there (.here _ _))))) | exact .there (.there (.there (.there (.there (.there (.here _ _)))))) | exact .there (.there (.there (.there (.there (.there (.there (.here _ _))))))) | exact .there (.there (.there (.there (.there (.there (.there (.there (.here _ _)))))))) | exact .there (.there (.there (.there (.there (.there (.there (.there (.there (.here _ _))))))))) | exact .there (.there (.there (.there (.there (.there (.there (.there (.there (.there (.here _ _)))))))))) | exact .there (.there (.there (.there (.there (.there (.there (.there (.there (.there (.there (.here _ _))))))))))) | exact .there (.there (.there (.there (.there (.there (.there (.there (.there (.there (.there (.there (.here _ _)))))))))))) | exact .there (.there (.there (.there (.there (.there (.there (.there (.there (.there (.there (.there (.there (.here _ _)))))))))))))) 0
      have p10 := H9.cell (b := p) (o := 10) (by first | exact .here _ _ | exact .there (.here _ _) | exact .there (.there (.here _ _)) | exact .there (.there (.there (.here _ _))) | exact .there (.there (.there (.there (.here _ _)))) | exact .there (.there (.there (.there (.there (.here _ _))))) | exact .there (.there (.there (.there (.there (.there (.here _ _)))))) | exact .there (.there (.there (.there (.there (.there (.there (.here _ _))))))) | exact .there (.there (.there (.there (.there (.there (.there (.there (.here _ _)))))))) | exact .there (.there (.there (.there (.there (.there (.there (.there (.there (.here _ _))))))))) | exact .there (.there (.there (.there (.there (.there (.there (.there (.there (.there (.here _ _)))))))))) | exact .there (.there (.there (.there (.there (.there (.there (.there (.there (.there (.there (.here _ _))))))))))) | exact .there (.there (.there (.there (.there (.there (.there (.there (.there (.there (.there (.there (.here _ _)))))))))))) | exact .there (.there (.there (.there (.there (.there (.there (.there (.there (.there (.there (.there (.there (.here _ _)))))))))))))) rfl
      have H12 := Lib.hid (fin_two H9 (.int .i64 count) (.bool true))
      clear H9
      gi_wp2_with fail
      refine leaveS (v := .tuple #[.int .i64 count, .bool true]) (H12.out.re (.step (.there (.there (.here _ _))) (.same _))) ?_ ?_
      · intro V H
        exact ready_results H rfl rfl
      · intro V H
        exact ⟨by rw [hfin.out], hback.out _ _ _ H⟩
    · rintro c i V _ D ⟨rfl, hne, rfl⟩ H
      have hfin := Lib.hid (show Y = (0, false) from by rw [← hYY.out, if_neg hne])
      have H9 : SL V (.obj D (.deferred (some [])) :: .blk q2 [.bool false] 4 :: .blk q1 [.int .i64 0] 3 :: memB p self nodes disp N By (.slice a mlen c0) gN gBy owes (.map (some b)) count :: .own 3 1 (.slice a mlen c0) mlen (iv ms) :: iset b ps :: L) := by
        have H := H.perm (((List.perm_append_comm (l₁ := .blk q2 [.bool false] 4 :: .blk q1 [.int .i64 0] 3 :: L) (l₂ := missP B p c0 b mlen a self nodes disp N By gN gBy count owes ms ps))).cons _)
        exact H.re (.step (.here _ _) (.step (.there (.there (.there (.there (.here _ _))))) (.step (.there (.there (.there (.there (.here _ _))))) (.drop (.same _)))))
      clear H4 hg H hYY hne
      gi_wp2_with fail
      refine leaveS (v := .tuple #[.int .i64 0, .bool false]) H9 ?_ ?_
      · intro V H
        exact ready_results H rfl rfl
      · intro V H
        exact ⟨by rw [hfin.out], hback.out _ _ _ H⟩
  · have hfin := Lib.hid (show Y = (0, false) from by rw [← hY'.out, if_neg (fun h => h1 ⟨h.1, by rw [← e5'.out]; exact decide_eq_true h.2.1⟩)])
    clear hY' hg
    have two : (By != self) = true ∨ ((By != self) = false ∧ q5 = false) := by
      by_cases h : By = self
      · right; exact ⟨by simpa using h, by cases q5; rfl; exact absurd ⟨h, rfl⟩ h1⟩
      · left; simpa using h
    clear h1
    rcases two with h1b | ⟨h1b, rfl⟩
    · refine wpIn_wide.2 ?_
      go_quiet ((go_at_call 32; exact quiet_eq (no'.out _)))
      have H2 := hH.out.drewN nq
      generalize w1.drewN nq = w2 at *
      have H3 := fin_two H2 (.int .i64 0) (.bool false)
      have z1 := H2.cell (b := q1) (o := 0) (by first | exact .here _ _ | exact .there (.here _ _) | exact .there (.there (.here _ _)) | exact .there (.there (.there (.here _ _))) | exact .there (.there (.there (.there (.here _ _)))) | exact .there (.there (.there (.there (.there (.here _ _))))) | exact .there (.there (.there (.there (.there (.there (.here _ _)))))) | exact .there (.there (.there (.there (.there (.there (.there (.here _ _))))))) | exact .there (.there (.there (.there (.there (.there (.there (.there (.here _ _)))))))) | exact .there (.there (.there (.there (.there (.there (.there (.there (.there (.here _ _))))))))) | exact .there (.there (.there (.there (.there (.there (.there (.there (.there (.there (.here _ _)))))))))) | exact .there (.there (.there (.there (.there (.there (.there (.there (.there (.there (.there (.here _ _))))))))))) | exact .there (.there (.there (.there (.there (.there (.there (.there (.there (.there (.there (.there (.here _ _)))))))))))) | exact .there (.there (.there (.there (.there (.there (.there (.there (.there (.there (.there (.there (.there (.here _ _)))))))))))))) rfl
      have z2 := H2.cell (b := q2) (o := 0) (by first | exact .here _ _ | exact .there (.here _ _) | exact .there (.there (.here _ _)) | exact .there (.there (.there (.here _ _))) | exact .there (.there (.there (.there (.here _ _)))) | exact .there (.there (.there (.there (.there (.here _ _))))) | exact .there (.there (.there (.there (.there (.there (.here _ _)))))) | exact .there (.there (.there (.there (.there (.there (.there (.here _ _))))))) | exact .there (.there (.there (.there (.there (.there (.there (.there (.here _ _)))))))) | exact .there (.there (.there (.there (.there (.there (.there (.there (.there (.here _ _))))))))) | exact .there (.there (.there (.there (.there (.there (.there (.there (.there (.there (.here _ _)))))))))) | exact .there (.there (.there (.there (.there (.there (.there (.there (.there (.there (.there (.here _ _))))))))))) | exact .there (.there (.there (.there (.there (.there (.there (.there (.there (.there (.there (.there (.here _ _)))))))))))) | exact .there (.there (.there (.there (.there (.there (.there (.there (.there (.there (.there (.there (.there (.here _ _)))))))))))))) rfl
      have f1 := H2.free (b := q1) (by first | exact .here _ _ | exact .there (.here _ _) | exact .there (.there (.here _ _)) | exact .there (.there (.there (.here _ _))) | exact .there (.there (.there (.there (.here _ _)))) | exact .there (.there (.there (.there (.there (.here _ _))))) | exact .there (.there (.there (.there (.there (.there (.here _ _)))))) | exact .there (.there (.there (.there (.there (.there (.there (.here _ _))))))) | exact .there (.there (.there (.there (.there (.there (.there (.there (.here _ _)))))))) | exact .there (.there (.there (.there (.there (.there (.there (.there (.there (.here _ _))))))))) | exact .there (.there (.there (.there (.there (.there (.there (.there (.there (.there (.here _ _)))))))))) | exact .there (.there (.there (.there (.there (.there (.there (.there (.there (.there (.there (.here _ _))))))))))) | exact .there (.there (.there (.there (.there (.there (.there (.there (.there (.there (.there (.there (.here _ _)))))))))))) | exact .there (.there (.there (.there (.there (.there (.there (.there (.there (.there (.there (.there (.there (.here _ _)))))))))))))) 0
      have f2 := H2.free (b := q2) (by first | exact .here _ _ | exact .there (.here _ _) | exact .there (.there (.here _ _)) | exact .there (.there (.there (.here _ _))) | exact .there (.there (.there (.there (.here _ _)))) | exact .there (.there (.there (.there (.there (.here _ _))))) | exact .there (.there (.there (.there (.there (.there (.here _ _)))))) | exact .there (.there (.there (.there (.there (.there (.there (.here _ _))))))) | exact .there (.there (.there (.there (.there (.there (.there (.there (.here _ _)))))))) | exact .there (.there (.there (.there (.there (.there (.there (.there (.there (.here _ _))))))))) | exact .there (.there (.there (.there (.there (.there (.there (.there (.there (.there (.here _ _)))))))))) | exact .there (.there (.there (.there (.there (.there (.there (.there (.there (.there (.there (.here _ _))))))))))) | exact .there (.there (.there (.there (.there (.there (.there (.there (.there (.there (.there (.there (.here _ _)))))))))))) | exact .there (.there (.there (.there (.there (.there (.there (.there (.there (.there (.there (.there (.there (.here _ _)))))))))))))) 0
      have hH3 := Lib.hid H3
      clear H2 H3 p0 p2 p4 p5 hH
      gi_wp2_with fail
      refine leave_ret (v := .tuple #[.int .i64 0, .bool false]) (ready_results hH3.out rfl rfl) ⟨by rw [hfin.out], hback.out _ _ _ hH3.out⟩
    · refine wpIn_wide.2 ?_
      go_quiet ((first | (go_at_call 32; exact quiet_eq (no'.out _)) | (go_at_call 38; exact quiet_eq (co'.out _))))
      have H2 := hH.out.drewN nq
      generalize w1.drewN nq = w2 at *
      have H3 := fin_two H2 (.int .i64 0) (.bool false)
      have z1 := H2.cell (b := q1) (o := 0) (by first | exact .here _ _ | exact .there (.here _ _) | exact .there (.there (.here _ _)) | exact .there (.there (.there (.here _ _))) | exact .there (.there (.there (.there (.here _ _)))) | exact .there (.there (.there (.there (.there (.here _ _))))) | exact .there (.there (.there (.there (.there (.there (.here _ _)))))) | exact .there (.there (.there (.there (.there (.there (.there (.here _ _))))))) | exact .there (.there (.there (.there (.there (.there (.there (.there (.here _ _)))))))) | exact .there (.there (.there (.there (.there (.there (.there (.there (.there (.here _ _))))))))) | exact .there (.there (.there (.there (.there (.there (.there (.there (.there (.there (.here _ _)))))))))) | exact .there (.there (.there (.there (.there (.there (.there (.there (.there (.there (.there (.here _ _))))))))))) | exact .there (.there (.there (.there (.there (.there (.there (.there (.there (.there (.there (.there (.here _ _)))))))))))) | exact .there (.there (.there (.there (.there (.there (.there (.there (.there (.there (.there (.there (.there (.here _ _)))))))))))))) rfl
      have z2 := H2.cell (b := q2) (o := 0) (by first | exact .here _ _ | exact .there (.here _ _) | exact .there (.there (.here _ _)) | exact .there (.there (.there (.here _ _))) | exact .there (.there (.there (.there (.here _ _)))) | exact .there (.there (.there (.there (.there (.here _ _))))) | exact .there (.there (.there (.there (.there (.there (.here _ _)))))) | exact .there (.there (.there (.there (.there (.there (.there (.here _ _))))))) | exact .there (.there (.there (.there (.there (.there (.there (.there (.here _ _)))))))) | exact .there (.there (.there (.there (.there (.there (.there (.there (.there (.here _ _))))))))) | exact .there (.there (.there (.there (.there (.there (.there (.there (.there (.there (.here _ _)))))))))) | exact .there (.there (.there (.there (.there (.there (.there (.there (.there (.there (.there (.here _ _))))))))))) | exact .there (.there (.there (.there (.there (.there (.there (.there (.there (.there (.there (.there (.here _ _)))))))))))) | exact .there (.there (.there (.there (.there (.there (.there (.there (.there (.there (.there (.there (.there (.here _ _)))))))))))))) rfl
      have f1 := H2.free (b := q1) (by first | exact .here _ _ | exact .there (.here _ _) | exact .there (.there (.here _ _)) | exact .there (.there (.there (.here _ _))) | exact .there (.there (.there (.there (.here _ _)))) | exact .there (.there (.there (.there (.there (.here _ _))))) | exact .there (.there (.there (.there (.there (.there (.here _ _)))))) | exact .there (.there (.there (.there (.there (.there (.there (.here _ _))))))) | exact .there (.there (.there (.there (.there (.there (.there (.there (.here _ _)))))))) | exact .there (.there (.there (.there (.there (.there (.there (.there (.there (.here _ _))))))))) | exact .there (.there (.there (.there (.there (.there (.there (.there (.there (.there (.here _ _)))))))))) | exact .there (.there (.there (.there (.there (.there (.there (.there (.there (.there (.there (.here _ _))))))))))) | exact .there (.there (.there (.there (.there (.there (.there (.there (.there (.there (.there (.there (.here _ _)))))))))))) | exact .there (.there (.there (.there (.there (.there (.there (.there (.there (.there (.there (.there (.there (.here _ _)))))))))))))) 0
      have f2 := H2.free (b := q2) (by first | exact .here _ _ | exact .there (.here _ _) | exact .there (.there (.here _ _)) | exact .there (.there (.there (.here _ _))) | exact .there (.there (.there (.there (.here _ _)))) | exact .there (.there (.there (.there (.there (.here _ _))))) | exact .there (.there (.there (.there (.there (.there (.here _ _)))))) | exact .there (.there (.there (.there (.there (.there (.there (.here _ _))))))) | exact .there (.there (.there (.there (.there (.there (.there (.there (.here _ _)))))))) | exact .there (.there (.there (.there (.there (.there (.there (.there (.there (.here _ _))))))))) | exact .there (.there (.there (.there (.there (.there (.there (.there (.there (.there (.here _ _)))))))))) | exact .there (.there (.there (.there (.there (.there (.there (.there (.there (.there (.there (.here _ _))))))))))) | exact .there (.there (.there (.there (.there (.there (.there (.there (.there (.there (.there (.there (.here _ _)))))))))))) | exact .there (.there (.there (.there (.there (.there (.there (.there (.there (.there (.there (.there (.there (.here _ _)))))))))))))) 0
      have hH3 := Lib.hid H3
      clear H2 H3 p0 p2 p4 p5 hH
      gi_wp2_with fail
      refine leave_ret (v := .tuple #[.int .i64 0, .bool false]) (ready_results hH3.out rfl rfl) ⟨by rw [hfin.out], hback.out _ _ _ hH3.out⟩
end Go.Proofs.Ytaibdcglhibglaa
