/- The rule for a range over a function whose variables are made anew in each round. Nothing here names the program. -/
import Derived.Test.YtamhlmfcnnomgaaRange
import Derived.WalkMore
namespace Go.Proofs.Ytamhlmfcnnomgaa
open Go.RowKit
set_option linter.unusedVariables false

theorem scope_in {n : Nat} {P : Program} {c : Code} {Q : Exit → Act → World → Prop} {a : Act} {w : World} (h : c.wpIn Fence.wide n P (Exit.noGoto Q) a w) : (Code.scope c).wpIn Fence.wide n P Q a w :=
  wpIn_wide.2 (wp_scope_straight (wpIn_wide.1 h))

/-- A plain contract where a walk in a round asks one. -/
theorem calls_inR {P : Program} {f : FuncId} {args : Array Value} {w : World} {R : Ending → World → Prop} {n l : Nat} (h : Calls P f args w R) : CallsIn (Fence.wide.inRound l) n P f args w R :=
  show CallsIn Fence.wide n P f args w R from callsIn_wide.2 h

theorem wp_range2 {P : Program} {g : Operand} {ps : Array Tmp} {assign body : Code} {Q : Exit → Act → World → Prop} {a : Act} {w : World}
    {gf : Nat} {lb : Array Value} (hg : a.eval g = .func (.func gf) #[] lb) (eg : ∀ args w, (callFunc gf args).run P w = .ok (.enter gf args) w)
    {xs : List (Array Value)} {O : Nat → Prop} {H H0 : World → Prop} (hseq : Gives P gf lb xs O H H0) (hps : ∀ x ∈ xs, x.size = ps.size)
    (S : Nat → Prop) (I : Nat → World → Prop) (X : Code → World → Prop)
    (hO : ∀ k, O k → k < w.heap.size) (hS : ∀ k, S k → k ≠ w.heap.size ∧ k ≠ w.heap.size + 1 ∧ ¬ O k)
    (hI : ∀ i A B, I i A → Kp (fun k => O k ∨ k = w.heap.size ∨ k = w.heap.size + 1) A B → I i B)
    (hX : ∀ c A B, X c A → Kp (fun k => O k ∨ k = w.heap.size ∨ k = w.heap.size + 1) A B → X c B)
    (hH : ∀ i A, I i A → H A) (hH0 : ∀ B, Kp no w B → H0 B) (h0 : I 0 w)
    (hround : ∀ i (h : i < xs.length) (W : World), w.heap.size + 1 < W.heap.size → I i W →
      assign.wpIn (Fence.wide.inRound (w.heap.size + 1)) 0 P (Exit.then (fun a₁ W₁ => Kp no W W₁ ∧ ∀ W₂, Kp (fun k => k = w.heap.size + 1) W₁ W₂ → I i W₂ →
        body.wpIn (Fence.wide.inRound (w.heap.size + 1)) 0 P (rpost S I X i W₂) a₁ W₂) (fun _ _ _ => False)) { tmps := (ps.zip xs[i]).foldl (fun t (p, v) => t.setIfInBounds p v) a.tmps, defers := [] } W)
    (hdone : ∀ W, I xs.length W → W.heap[w.heap.size]? = some (.deferred (some [])) →
      Q .normal { a with defers := { target := .collected w.heap.size, args := #[] } :: a.defers } W)
    (hstop : ∀ c W, X c W → W.heap[w.heap.size]? = some (.deferred (some [])) →
      c.wpIn Fence.wide 0 P Q { a with defers := { target := .collected w.heap.size, args := #[] } :: a.defers } W) :
    (Code.rangeFunc g ps assign body).wpIn Fence.wide 0 P Q a w := by
  refine wpIn_rangeFunc ?_
  intro fn hfn
  show ∃ l mark w₁ d w₁' f args w₂, (Instr.enterLoop fn a.tmps ps assign body none).run P w = _ ∧ _
  obtain ⟨rc, hrc⟩ : ∃ rc : LoopState → Option Code → Loop, rc = fun st pe => { state := st, pending := pe, fn, tmps := a.tmps, params := ps, assign, body, defers := w.heap.size } := ⟨_, rfl⟩
  obtain ⟨W1, hW1⟩ : ∃ W1, (w.alloc (.deferred (some []))).alloc (.loop (rc .ready none)) = W1 := ⟨_, rfl⟩
  have hk1 : Kp no w W1 := by rw [← hW1]; exact ((Kp.refl no w).alloc _).alloc _
  have hL1 : W1.heap[w.heap.size + 1]? = some (.loop (rc .ready none)) := by
    rw [← hW1]; have := World.alloc_heap_new (w.alloc (.deferred (some []))) (.loop (rc .ready none)); rwa [World.size_alloc] at this
  have hD1 : W1.heap[w.heap.size]? = some (.deferred (some [])) := by
    rw [← hW1]; exact (Below.heap_alloc _ _ _ (by simp)).trans (World.alloc_heap_new w _)
  refine ⟨w.heap.size + 1, [{ target := .collected w.heap.size, args := #[] }], W1, { target := .fn (.func gf) lb, args := #[.func (.yield (w.heap.size + 1)) #[] #[]] }, W1, gf,
    #[.func (.yield (w.heap.size + 1)) #[] #[]] ++ lb, W1, ?_, ?_, fun _ _ => trivial, ?_, fun h => by simp [Fence.wide] at h, ?_⟩
  · rw [← hW1, hrc]; exact run_enterLoop_outer _ _ _ _ _
  · simp only [resolve, hg]
    simp [go_sem]
  · simp [invoke, go_sem, eg]
  · have hOl : ∀ k, O k → k ≠ w.heap.size ∧ k ≠ w.heap.size + 1 := fun k hk => ⟨by have := hO k hk; omega, by have := hO k hk; omega⟩
    have hKO : ∀ {A B}, Kp O A B → Kp (fun k => O k ∨ k = w.heap.size ∨ k = w.heap.size + 1) A B := fun h => h.mono fun _ _ h => .inl h
    have hput : ∀ (A : World) (o : Obj), Kp (fun k => O k ∨ k = w.heap.size ∨ k = w.heap.size + 1) A (A.putObj (w.heap.size + 1) o) := fun A o => (Kp.refl _ A).putObj (.inl (.inr (.inr rfl))) o
    refine (hseq (w.heap.size + 1)
      (fun i W => I i W ∧ W.heap[w.heap.size + 1]? = some (.loop (rc .ready none)) ∧ W.heap[w.heap.size]? = some (.deferred (some [])))
      (fun W => ∃ c, X c W ∧ W.heap[w.heap.size + 1]? = some (.loop (rc .done (some c))) ∧ W.heap[w.heap.size]? = some (.deferred (some [])))
      W1 ?_ ?_ (fun i A h => hH i A h.1) ?_ (hH0 _ hk1) ⟨hI 0 _ _ h0 hk1.of_no, hL1, hD1⟩).mono ?_
    · exact fun i A B hs hk => ⟨hI i _ _ hs.1 (hKO hk), hk.at hs.2.1 (fun h => (hOl _ h).2 rfl), hk.at hs.2.2 (fun h => (hOl _ h).1 rfl)⟩
    · rintro A B ⟨c, hs⟩ hk
      exact ⟨c, hX c _ _ hs.1 (hKO hk), hk.at hs.2.1 (fun h => (hOl _ h).2 rfl), hk.at hs.2.2 (fun h => (hOl _ h).1 rfl)⟩
    · rintro i hi W ⟨hiW, hl, hd⟩
      have hlt := blk_lt hl
      have hy := run_yield (P := P) (args := xs[i]) hl (by rw [hrc]; exact hps _ (List.getElem_mem hi))
      rw [hrc] at hy
      refine ⟨fn, _, assign, body, hy, roundIn_of_wpIn hfn (wpIn_mono (hround i hi W hlt hiW) ?_)⟩
      intro e0 a0 W1' hthen
      cases e0 with
      | ret => exact hthen.elim
      | exit _ => exact hthen.elim
      | goto _ => exact hthen.elim
      | panic _ => exact hthen.elim
      | outgrown => exact hthen.elim
      | normal =>
      obtain ⟨hkA, hbody⟩ := hthen
      have hW1k : ∀ k, k < W.heap.size → W1'.heap[k]? = W.heap[k]? := fun k hk => hkA.block k hk (fun h => h)
      replace hl := hkA.at hl (fun h => h)
      replace hd := hkA.at hd (fun h => h)
      replace hiW := hI i _ _ hiW hkA.of_no
      have hltW := hlt
      replace hlt := blk_lt hl
      refine ⟨_, run_beginRound hl (by rw [hrc]), ?_⟩
      obtain ⟨W2, hW2⟩ : ∃ W2, W1'.putObj (w.heap.size + 1) (.loop { rc .ready none with state := .busy }) = W2 := ⟨_, rfl⟩
      have hl2 : W2.heap[w.heap.size + 1]? = some (.loop { rc .ready none with state := .busy }) := by rw [← hW2]; exact World.putObj_heap_same hlt
      have hd2 : W2.heap[w.heap.size]? = some (.deferred (some [])) := by rw [← hW2]; exact (World.putObj_heap_other (by omega)).trans hd
      have hk2 := hput W1' (.loop { rc .ready none with state := .busy })
      have hk2' : Kp (fun k => k = w.heap.size + 1) W1' (W1'.putObj (w.heap.size + 1) (.loop { rc .ready none with state := .busy })) := (Kp.refl (fun k => k = w.heap.size + 1) W1').putObj (.inl rfl) _
      rw [hW2] at hk2' 
      rw [hW2] at hk2 ⊢
      have fin : ∀ (jump : Option Code) (W3 : World), Kp S W2 W3 →
          (Instr.endRound (w.heap.size + 1) jump).run P W3 = .ok (.bool jump.isNone) (W3.putObj (w.heap.size + 1) (.loop (rc (if jump.isNone then .ready else .done) jump))) ∧
          (W3.putObj (w.heap.size + 1) (.loop (rc (if jump.isNone then .ready else .done) jump))).heap[w.heap.size + 1]? = some (.loop (rc (if jump.isNone then .ready else .done) jump)) ∧
          (W3.putObj (w.heap.size + 1) (.loop (rc (if jump.isNone then .ready else .done) jump))).heap[w.heap.size]? = some (.deferred (some [])) := by
        intro jump W3 hk3
        have hl3 := hk3.at hl2 (fun h => (hS _ h).2.1 rfl)
        have hd3 := hk3.at hd2 (fun h => (hS _ h).1 rfl)
        have hr := run_endRound (P := P) jump hl3
        rw [hrc] at hr ⊢
        exact ⟨hr, World.putObj_heap_same (blk_lt hl3), (World.putObj_heap_other (by omega)).trans hd3⟩
      refine wpIn_mono (hbody _ hk2' (hI i _ _ hiW hk2)) ?_
      rintro e a3 W3 hp
      cases e with
      | normal =>
        obtain ⟨hk3, hi3⟩ := hp
        obtain ⟨hr, hl4, hd4⟩ := fin none W3 hk3
        refine ⟨_, _, hr, .inl ⟨rfl, ⟨hI _ _ _ hi3 (hput _ _), hl4, hd4⟩, fun k hk => ?_⟩⟩
        have hne := hOl k hk
        have hkW : k < W2.heap.size := by have := hO k hk; have := blk_lt hl2; omega
        rw [World.putObj_heap_other hne.2, hk3.block k hkW (fun h => (hS k h).2.2 hk), ← hW2, World.putObj_heap_other hne.2, hW1k k (by have := hO k hk; omega)]
      | ret =>
        obtain ⟨hk3, hi3⟩ := hp
        obtain ⟨hr, hl4, hd4⟩ := fin (some .ret) W3 hk3
        exact ⟨_, _, hr, .inr ⟨rfl, .ret, hX _ _ _ hi3 (hput _ _), hl4, hd4⟩⟩
      | exit id =>
        obtain ⟨hk3, hi3⟩ := hp
        obtain ⟨hr, hl4, hd4⟩ := fin (some (.exit id)) W3 hk3
        exact ⟨_, _, hr, .inr ⟨rfl, .exit id, hX _ _ _ hi3 (hput _ _), hl4, hd4⟩⟩
      | goto t =>
        obtain ⟨hk3, hi3⟩ := hp
        obtain ⟨hr, hl4, hd4⟩ := fin (some (.goto t)) W3 hk3
        exact ⟨_, _, hr, .inr ⟨rfl, .goto t, hX _ _ _ hi3 (hput _ _), hl4, hd4⟩⟩
      | panic ch => exact hp.elim
      | outgrown => exact hp.elim
    · rintro e W2 ⟨⟨v, rfl⟩, (⟨hi, hl, hd⟩ | ⟨c, hi, hl, hd⟩)⟩
      · have hr := run_endLoop (P := P) hl (by rw [hrc]; simp)
        rw [hrc] at hr
        exact ⟨none, _, hr, hdone _ (hI _ _ _ hi (hput _ _)) ((World.putObj_heap_other (by omega)).trans hd)⟩
      · have hr := run_endLoop (P := P) hl (by rw [hrc]; simp)
        rw [hrc] at hr
        exact ⟨some c, _, hr, hstop _ _ (hX _ _ _ hi (hput _ _)) ((World.putObj_heap_other (by omega)).trans hd)⟩

end Go.Proofs.Ytamhlmfcnnomgaa
