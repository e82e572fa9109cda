/- A range over a function, in pieces of memory: the iterator's contract ('GivesS') and the rule for the statement ('wp_rangeS'). Nothing here names the program. -/
import Derived.Test.YtilpkfgdlehmpaaDoorSL
import Derived.Test.YtilpkfgdlehmpaaDoorRange
import Derived.WalkMore
import Derived.Deep.QuietTactic
import Derived.BigQuiet
namespace Go.Proofs.YtilpkfgdlehmpaaDoor
open Go.RowKit
set_option linter.unusedVariables false

theorem scope_in {n : Nat} {P : Program} {c : Code} {Q : Exit → Act → World → Prop} {a : Act} {w : World} (h : c.wpIn Fence.wide n P (Exit.noGoto Q) a w) : (Code.scope c).wpIn Fence.wide n P Q a w :=
  wpIn_wide.2 (wp_scope_straight (wpIn_wide.1 h))

/-- A plain contract where a walk in a round asks one. -/
theorem calls_inR {P : Program} {f : FuncId} {args : Array Value} {w : World} {R : Ending → World → Prop} {n l : Nat} (h : Calls P f args w R) : CallsIn (Fence.wide.inRound l) n P f args w R :=
  show CallsIn Fence.wide n P f args w R from callsIn_wide.2 h

/-- A callee that turns nothing, in a region that only reads. -/
theorem quiet_eq {P : Program} {f : FuncId} {args : Array Value} {w : World} {n : Nat} {v : Value}
    (h : Calls P f args (w.drewN n) fun e w' => e = .returned v ∧ w.drewN n = w') : Calls P f args (w.drewN n) fun e w'' => e = .returned v ∧ ∃ m, w'' = w.drewN m :=
  h.mono fun _ _ ⟨he, hm⟩ => ⟨he, n, hm.symm⟩

/-- The iterator 'g' hands over the values xs, in that order; its own pieces are A i when it hands over the i-th, and the body leaves them as B i. -/
def GivesS (P : Program) (g : Nat) (lb : Array Value) (xs : List (Array Value)) (A B : Nat → List Pc) : Prop :=
  ∀ (l : Nat) (J Z : Nat → List Pc → Prop) (W : World) (L0 : List Pc),
    (∀ i (h : i < xs.length) V L, J i L → SL V (A i ++ L) → YieldAt Fence.wide 0 P l xs[i] V fun e V' =>
       (e = .returned (.bool true) ∧ ∃ L', J (i + 1) L' ∧ SL V' (B i ++ L')) ∨ (e = .returned (.bool false) ∧ ∃ L', Z i L' ∧ SL V' (B i ++ L'))) →
    J 0 L0 → SL W (A 0 ++ L0) →
    CallsIn Fence.wide 0 P g (#[.func (.yield l) #[] #[]] ++ lb) W fun e V => (∃ v, e = .returned v) ∧
      ((∃ L, J xs.length L ∧ SL V (A xs.length ++ L)) ∨ (∃ i L, Z i L ∧ SL V (B i ++ L)))

/-- How the body of the i-th round may end. -/
def rpostS (B : Nat → List Pc) (J : Nat → List Pc → Prop) (X : Code → Nat → List Pc → Prop) (i : Nat) (T : List Pc) : Exit → Act → World → Prop
  | .normal, _, V => ∃ L, J (i + 1) L ∧ SL V (L ++ (B i ++ T))
  | .ret, _, V => ∃ L, X .ret i L ∧ SL V (L ++ (B i ++ T))
  | .exit id, _, V => ∃ L, X (.exit id) i L ∧ SL V (L ++ (B i ++ T))
  | .goto t, _, V => ∃ L, X (.goto t) i L ∧ SL V (L ++ (B i ++ T))
  | .panic _, _, _ => False
  | .outgrown, _, _ => False

theorem SL.comm {w : World} {A B : List Pc} (h : SL w (A ++ B)) : SL w (B ++ A) := h.perm List.perm_append_comm
theorem SL.swap {w : World} {A B C : List Pc} (h : SL w (A ++ (B ++ C))) : SL w (B ++ (A ++ C)) := h.perm (List.perm_append_comm_assoc _ _ _)

theorem last_front (A L : List Pc) (d o : Pc) : (A ++ (L ++ [d, o])).Perm (o :: (A ++ (L ++ [d]))) := by
  have : A ++ (L ++ [d, o]) = (A ++ (L ++ [d])) ++ [o] := by simp
  rw [this]
  exact List.perm_append_comm
theorem last_front' (A L : List Pc) (d : Pc) : (A ++ (L ++ [d])).Perm (d :: (A ++ L)) := by
  have : A ++ (L ++ [d]) = (A ++ L) ++ [d] := by simp
  rw [this]
  exact List.perm_append_comm

theorem SL.obj {w : World} {b : Nat} {o : Obj} {L : List Pc} (h : SL w (.obj b o :: L)) : w.heap[b]? = some o := h.head
theorem SL.putObj {w : World} {b : Nat} {o : Obj} {L : List Pc} (h : SL w (.obj b o :: L)) (o' : Obj) : SL (w.putObj b o') (.obj b o' :: L) :=
  h.upd (Kp.putObj (S := (Pc.obj b o).foot) (Kp.refl _ w) (.inl (show b = b from rfl)) o') (show (w.putObj b o').heap[b]? = some o' from World.putObj_heap_same (blk_lt h.obj)) fun x hx => .inl hx

theorem wp_rangeS {P : Program} {g : Operand} {ps : Array Tmp} {assign body : Code} {Q : Exit → Act → World → Prop} {a : Act} {w : World}
    {gf : Nat} {lb : Array Value} (hg : a.eval g = .func (.func gf) #[] lb) (eg : ∀ args w, (callFunc gf args).run P w = .ok (.enter gf args) w)
    {xs : List (Array Value)} {A B : Nat → List Pc} (hseq : GivesS P gf lb xs A B) (hps : ∀ x ∈ xs, x.size = ps.size)
    (J : Nat → List Pc → Prop) (X : Code → Nat → List Pc → Prop) {L0 : List Pc} (h0 : J 0 L0) (H : SL w (L0 ++ A 0))
    (hround : ∀ i (h : i < xs.length) (V : World) (l : Nat) (L T : List Pc), J i L → SL V (L ++ (A i ++ T)) →
      assign.wpIn (Fence.wide.inRound l) 0 P (Exit.then (fun a₁ V₁ => ∃ L1, SL V₁ (L1 ++ (A i ++ T)) ∧ ∀ V₂ T₂, SL V₂ (L1 ++ (A i ++ T₂)) →
        body.wpIn (Fence.wide.inRound l) 0 P (rpostS B J X i T₂) a₁ V₂) (fun _ _ _ => False)) { tmps := (ps.zip xs[i]).foldl (fun t (p, v) => t.setIfInBounds p v) a.tmps, defers := [] } V)
    (hdone : ∀ V L D, J xs.length L → SL V (.obj D (.deferred (some [])) :: (L ++ A xs.length)) →
      Q .normal { a with defers := { target := .collected D, args := #[] } :: a.defers } V)
    (hstop : ∀ c i V L D, X c i L → SL V (.obj D (.deferred (some [])) :: (L ++ B i)) →
      c.wpIn Fence.wide 0 P Q { a with defers := { target := .collected D, args := #[] } :: a.defers } V) :
    (Code.rangeFunc g ps assign body).wpIn Fence.wide 0 P Q a w := by
  refine wpIn_rangeFunc ?_
  intro fn hfn
  show ∃ l mark w₁ d w₁' f args w₂, (Instr.enterLoop fn a.tmps ps assign body none).run P w = _ ∧ _
  obtain ⟨D, hD⟩ : ∃ D, w.heap.size = D := ⟨_, rfl⟩
  obtain ⟨rc, hrc⟩ : ∃ rc : LoopState → Option Code → Loop, rc = fun st pe => { state := st, pending := pe, fn, tmps := a.tmps, params := ps, assign, body, defers := D } := ⟨_, rfl⟩
  obtain ⟨W1, hW1⟩ : ∃ W1, (w.alloc (.deferred (some []))).alloc (.loop (rc .ready none)) = W1 := ⟨_, rfl⟩
  have hS1 : SL W1 (A 0 ++ (L0 ++ [.obj D (.deferred (some [])), .obj (D + 1) (.loop (rc .ready none))])) := by
    replace H := H.perm List.perm_append_comm
    have h1 := (H.allocO (.deferred (some []))).allocO (.loop (rc .ready none))
    rw [hW1, World.size_alloc, hD] at h1
    refine h1.perm ?_
    refine (List.Perm.cons _ (last_front' (A 0) L0 _).symm).trans (last_front (A 0) L0 _ _).symm
  refine ⟨D + 1, [{ target := .collected D, args := #[] }], W1, { target := .fn (.func gf) lb, args := #[.func (.yield (D + 1)) #[] #[]] }, W1, gf,
    #[.func (.yield (D + 1)) #[] #[]] ++ lb, W1, ?_, ?_, fun _ _ => trivial, ?_, fun h => by simp [Fence.wide] at h, ?_⟩
  · rw [← hW1, hrc, ← hD]; exact run_enterLoop_outer _ _ _ _ _
  · simp only [resolve, hg]
    simp [go_sem]
  · simp [invoke, go_sem, eg]
  · refine (hseq (D + 1)
      (fun i L' => ∃ L, J i L ∧ L' = L ++ [.obj D (.deferred (some [])), .obj (D + 1) (.loop (rc .ready none))])
      (fun i L' => ∃ c L, X c i L ∧ L' = L ++ [.obj D (.deferred (some [])), .obj (D + 1) (.loop (rc .done (some c)))])
      W1 _ ?_ ⟨L0, h0, rfl⟩ hS1).mono ?_
    · rintro i hi V L' ⟨L, hJ, rfl⟩ hV
      have hob := (hV.perm (last_front _ _ _ _)).obj
      have hy := run_yield (P := P) (args := xs[i]) hob (by rw [hrc]; exact hps _ (List.getElem_mem hi))
      rw [hrc] at hy
      refine ⟨fn, _, assign, body, hy, roundIn_of_wpIn hfn (wpIn_mono (hround i hi V (D + 1) L _ hJ (hV.perm (List.perm_append_comm_assoc _ _ _))) ?_)⟩
      intro e0 a0 V1 hthen
      cases e0 with
      | ret => exact hthen.elim
      | exit _ => exact hthen.elim
      | goto _ => exact hthen.elim
      | panic _ => exact hthen.elim
      | outgrown => exact hthen.elim
      | normal =>
      obtain ⟨L1, hV1, hbody⟩ := hthen
      replace hV1 := hV1.perm (List.perm_append_comm_assoc _ _ _)
      have hF1 := hV1.perm (last_front _ _ _ _)
      refine ⟨_, run_beginRound hF1.obj (by rw [hrc]), ?_⟩
      have hF2 := hF1.putObj (.loop { rc .ready none with state := .busy })
      obtain ⟨V2, hV2⟩ : ∃ V2, V1.putObj (D + 1) (.loop { rc .ready none with state := .busy }) = V2 := ⟨_, rfl⟩
      rw [hV2] at hF2 ⊢
      have hF3 : SL V2 (A i ++ (L1 ++ [.obj D (.deferred (some [])), .obj (D + 1) (.loop { rc .ready none with state := .busy })])) := hF2.perm (last_front _ _ _ _).symm
      have fin : ∀ (jump : Option Code) (V3 : World) (L3 : List Pc), SL V3 (B i ++ (L3 ++ [.obj D (.deferred (some [])), .obj (D + 1) (.loop { rc .ready none with state := .busy })])) →
          (Instr.endRound (D + 1) jump).run P V3 = .ok (.bool jump.isNone) (V3.putObj (D + 1) (.loop (rc (if jump.isNone then .ready else .done) jump))) ∧
          SL (V3.putObj (D + 1) (.loop (rc (if jump.isNone then .ready else .done) jump))) (B i ++ (L3 ++ [.obj D (.deferred (some [])), .obj (D + 1) (.loop (rc (if jump.isNone then .ready else .done) jump))])) := by
        intro jump V3 L3 h3
        have hf := h3.perm (last_front _ _ _ _)
        have hr := run_endRound (P := P) jump hf.obj
        rw [hrc] at hr ⊢
        exact ⟨hr, (hf.putObj _).perm (last_front _ _ _ _).symm⟩
      refine wpIn_mono (hbody V2 _ (hF3.perm (List.perm_append_comm_assoc _ _ _))) ?_
      rintro e a3 V3 hp
      cases e with
      | normal =>
        obtain ⟨L3, hJ3, h3⟩ := hp
        obtain ⟨hr, h4⟩ := fin none V3 L3 (h3.perm (List.perm_append_comm_assoc _ _ _))
        exact ⟨_, _, hr, .inl ⟨rfl, _, ⟨L3, hJ3, rfl⟩, h4⟩⟩
      | ret =>
        obtain ⟨L3, hX3, h3⟩ := hp
        obtain ⟨hr, h4⟩ := fin (some .ret) V3 L3 (h3.perm (List.perm_append_comm_assoc _ _ _))
        exact ⟨_, _, hr, .inr ⟨rfl, _, ⟨.ret, L3, hX3, rfl⟩, h4⟩⟩
      | exit id =>
        obtain ⟨L3, hX3, h3⟩ := hp
        obtain ⟨hr, h4⟩ := fin (some (.exit id)) V3 L3 (h3.perm (List.perm_append_comm_assoc _ _ _))
        exact ⟨_, _, hr, .inr ⟨rfl, _, ⟨.exit id, L3, hX3, rfl⟩, h4⟩⟩
      | goto t =>
        obtain ⟨L3, hX3, h3⟩ := hp
        obtain ⟨hr, h4⟩ := fin (some (.goto t)) V3 L3 (h3.perm (List.perm_append_comm_assoc _ _ _))
        exact ⟨_, _, hr, .inr ⟨rfl, _, ⟨.goto t, L3, hX3, rfl⟩, h4⟩⟩
      | panic ch => exact hp.elim
      | outgrown => exact hp.elim
    · rintro e V ⟨⟨v, rfl⟩, (⟨_, ⟨L, hJ, rfl⟩, hV⟩ | ⟨i, _, ⟨c, L, hX, rfl⟩, hV⟩)⟩
      · have hf := hV.perm (last_front _ _ _ _)
        have hr := run_endLoop (P := P) hf.obj (by rw [hrc]; simp)
        rw [hrc] at hr
        refine ⟨none, _, hr, hdone _ L D hJ ?_⟩
        exact (((hf.putObj _).tail).perm (last_front' _ _ _)).perm (List.Perm.cons _ List.perm_append_comm)
      · have hf := hV.perm (last_front _ _ _ _)
        have hr := run_endLoop (P := P) hf.obj (by rw [hrc]; simp)
        rw [hrc] at hr
        refine ⟨some c, _, hr, hstop c i _ L D hX ?_⟩
        exact (((hf.putObj _).tail).perm (last_front' _ _ _)).perm (List.Perm.cons _ List.perm_append_comm)

/-- The way out of a function that held such a range. -/
theorem leaveS {P : Program} {fn : Func} {tmps : Array Value} {R : Ending → World → Prop} {D : Nat} {w : World} {L : List Pc} {v : Value}
    (h : SL w (.obj D (.deferred (some [])) :: L)) (hr : ∀ V, SL V L → (results fn tmps).run P V = .ok v V) (hR : ∀ V, SL V L → R (.returned v) V) :
    LeavesInM Fence.wide 0 P fn tmps R [{ target := .collected D, args := #[] }] .returning w :=
  leave_one h.obj (hr _ (h.putObj _).tail) (hR _ (h.putObj _).tail)

/-- The way out where no such range was begun. -/
theorem leave_ret {P : Program} {fn : Func} {a : Act} {R : Ending → World → Prop} {w : World} {v : Value}
    (hr : (results fn a.tmps).run P w = .ok v w) (hR : R (.returned v) w) (hd : a.defers = [] := by rfl) : bodyPostM Fence.wide 0 P fn R .ret a w := by
  show LeavesInM Fence.wide 0 P fn a.tmps R a.defers .returning w
  rw [hd]
  exact ⟨v, hr, hR⟩

end Go.Proofs.YtilpkfgdlehmpaaDoor
