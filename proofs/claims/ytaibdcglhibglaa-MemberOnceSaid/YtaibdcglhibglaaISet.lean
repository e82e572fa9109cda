/- A map from int to int that holds 1 at some numbers: a set of numbers. Nothing here names the program. -/
import Derived.Test.YtaibdcglhibglaaSL
namespace Go.Proofs.Ytaibdcglhibglaa
open Go.RowKit
set_option linter.unusedVariables false

/-- The number that an entry's key is. -/
def keyIs (k : Int) (e : MapEntry) : Bool := match e.key with | .int _ k' => k == k' | _ => false

def IsetAt (w : World) (b : Nat) (ps : Int → Bool) : Prop :=
  ∃ es clock, w.heap[b]? = some (.map es clock) ∧ (∀ e ∈ es.toList, e.val = .int .i64 1 ∧ ∃ k, e.key = .int .i64 k) ∧ ∀ k : Int, ps k = es.toList.any (keyIs k)

def iset (b : Nat) (ps : Int → Bool) : Pc := .gen {
  foot := fun x => x = b
  says := fun w => IsetAt w b ps
  stays := fun w w' h _ _ _ _ hb => by
    obtain ⟨es, c, h1, h2⟩ := h
    exact ⟨es, c, (hb b rfl).trans h1, h2⟩
  inn := fun w h x hx => by
    obtain ⟨es, c, h1, _⟩ := h
    obtain rfl : x = b := hx
    exact blk_lt h1 }

theorem SL.iset {w : World} {L L' : List Pc} {b : Nat} {ps : Int → Bool} (H : SL w L) (hp : Pull L (iset b ps) L') : IsetAt w b ps := H.all _ hp.mem

theorem findNow_int (k : Int) : ∀ (es : List MapEntry) (i : Nat), (∀ e ∈ es, e.val = .int .i64 1 ∧ ∃ k, e.key = .int .i64 k) →
    (es.any (keyIs k) = true ∧ ∃ j, Instr.findNow (.int .i64) (.int .i64 k) es i = some (some (i + j, .int .i64 1)) ∧ ∃ h : j < es.length, es[j].key = .int .i64 k) ∨
    (es.any (keyIs k) = false ∧ Instr.findNow (.int .i64) (.int .i64 k) es i = some none)
  | [], i, _ => .inr ⟨rfl, rfl⟩
  | e :: es, i, h => by
    obtain ⟨hv, k', hk⟩ := h e (by simp)
    by_cases hkk : k = k'
    · subst hkk
      refine .inl ⟨by simp [keyIs, hk], 0, ?_, by simp, by simpa using hk⟩
      simp [Instr.findNow, Instr.sameNow, hk, hv]
    · have hn : keyIs k e = false := by simp [keyIs, hk, hkk]
      have hs : Instr.findNow (.int .i64) (.int .i64 k) (e :: es) i = Instr.findNow (.int .i64) (.int .i64 k) es (i + 1) := by
        have hb : (k == k') = false := by simpa using hkk
        simp [Instr.findNow, Instr.sameNow, hk, hb]
      rcases findNow_int k es (i + 1) (fun x hx => h x (by simp [hx])) with ⟨h1, j, h2, h3, h4⟩ | ⟨h1, h2⟩
      · refine .inl ⟨by simp [h1], j + 1, ?_, by simpa using h3, by simpa using h4⟩
        rw [hs, h2]; congr 3; omega
      · exact .inr ⟨by simp [hn, h1], hs.trans h2⟩

section
variable {P : Program} {t K E : TypeId}

theorem checkKey_int' (w : World) (hk : P.underlying K = some (.int .i64)) (em : Bool) (k : Int) (n : Nat) : (Instr.checkKey em (n + 1) K (.int .i64 k)).run P w = .ok () w := by
  simp [Instr.checkKey, run_underlying hk]
theorem checkKey_int (w : World) (hk : P.underlying K = some (.int .i64)) (em : Bool) (k : Int) : (Instr.checkKey em 10000 K (.int .i64 k)).run P w = .ok () w := checkKey_int' w hk em k 9999

theorem findKey_int (w : World) (hk : P.underlying K = some (.int .i64)) (k : Int) (es : List MapEntry) (r : Option (Nat × Value)) (h : Instr.findNow (.int .i64) (.int .i64 k) es 0 = some r) :
    (Instr.findKey K (.int .i64 k) es).run P w = .ok r w := by
  simp [Instr.findKey, run_underlying hk, h]

theorem iset_lookup {w : World} {b : Nat} {ps : Int → Bool} (h : IsetAt w b ps) (ht : P.underlying t = some (.map K E)) (hk : P.underlying K = some (.int .i64)) (hz : ∀ w, (zeroValue E).run P w = .ok (.int .i64 0) w) (k : Int) :
    (Instr.lookup t (.map (some b)) (.int .i64 k) false).run P w = .ok (.int .i64 (if ps k then 1 else 0)) w := by
  obtain ⟨es, c, hb, h1, h2⟩ := h
  have hg : (getObj b).run P w = .ok (.map es c) w := by simp [getObj, Sem.run, hb]
  rw [h2 k]
  rcases findNow_int k es.toList 0 h1 with ⟨h3, j, h4, _⟩ | ⟨h3, h4⟩
  · simp [Instr.lookup, run_underlying ht, hg, checkKey_int w hk, findKey_int w hk k _ _ h4, h3]
  · simp [Instr.lookup, run_underlying ht, hg, checkKey_int w hk, findKey_int w hk k _ _ h4, h3, hz]

theorem iset_update {w : World} {b : Nat} {ps : Int → Bool} {L : List Pc} (H : SL w (iset b ps :: L)) (ht : P.underlying t = some (.map K E)) (hk : P.underlying K = some (.int .i64)) (k : Int) :
    ∃ w', (Instr.mapUpdate t (.map (some b)) (.int .i64 k) (.int .i64 1)).run P w = .ok () w' ∧ SL w' (iset b (fun x => ps x || x == k) :: L) := by
  obtain ⟨es, c, hb, h1, h2⟩ : IsetAt w b ps := H.head
  have hg : (getObj b).run P w = .ok (.map es c) w := by simp [getObj, Sem.run, hb]
  have hset : ∀ o : Obj, (setObj b o).run P w = .ok () (w.putObj b o) := fun o => by simp [setObj, Sem.run, World.putObj, hb]
  have hup : ∀ (es' : Array MapEntry) (c' : Nat), (∀ e ∈ es'.toList, e.val = .int .i64 1 ∧ ∃ k, e.key = .int .i64 k) → (∀ x : Int, (ps x || x == k) = es'.toList.any (keyIs x)) →
      SL (w.putObj b (.map es' c')) (iset b (fun x => ps x || x == k) :: L) := fun es' c' q1 q2 =>
    H.upd (Kp.putObj (S := (iset b ps).foot) (Kp.refl _ w) (.inl (show b = b from rfl)) _) ⟨es', c', World.putObj_heap_same (blk_lt hb), q1, q2⟩ fun x hx => .inl hx
  rcases findNow_int k es.toList 0 h1 with ⟨h3, j, h4, h5, h6⟩ | ⟨h3, h4⟩
  · rw [Nat.zero_add] at h4
    have hj : (es[j]?).map (·.key) = some (.int .i64 k) := by
      have hlt : j < es.size := by simpa using h5
      simp [hlt]; simpa using h6
    have hst : (Instr.keyThatStays (((es[j]?).map (·.key)).getD (.int .i64 k)) (.int .i64 k)).run P w = .ok (.int .i64 k) w := by
      rw [hj]
      simp [Instr.keyThatStays, Instr.sameBits]
    refine ⟨_, ?_, hup (es.modify j fun e => { e with key := .int .i64 k, val := .int .i64 1 }) c ?_ ?_⟩
    · simp [Instr.mapUpdate, run_underlying ht, hg, checkKey_int w hk, findKey_int w hk k _ _ h4]
      rw [show (Instr.keyThatStays ((es[j]?).map (·.key) |>.getD (.int .i64 k)) (.int .i64 k)).run P w = _ from hst]
      simp [hset]
    · intro e he
      rw [Array.toList_modify] at he
      obtain ⟨i, hi, rfl⟩ := List.mem_iff_getElem.1 he
      rw [List.getElem_modify]
      split
      · exact ⟨rfl, k, rfl⟩
      · exact h1 _ (List.getElem_mem _)
    · intro x
      rw [Array.toList_modify, h2 x]
      have hmod : es.toList.modify j (fun e => { e with key := .int .i64 k, val := .int .i64 1 }) = es.toList := by
        apply List.ext_getElem (by simp)
        intro i hi hi'
        rw [List.getElem_modify]
        split
        · rename_i hji
          subst hji
          have q := h1 _ (List.getElem_mem hi')
          have : es.toList[j].key = .int .i64 k := h6
          cases hc : es.toList[j] with
          | mk key val born => rw [hc] at this q; simp at this q; simp [this, q.1]
        · rfl
      rw [hmod]
      have hin : es.toList.any (keyIs k) = true := h3
      by_cases hx : x = k
      · subst hx; simp [hin]
      · simp [hx]
  · refine ⟨_, ?_, hup (es.push { key := .int .i64 k, val := .int .i64 1, born := c }) (c + 1) ?_ ?_⟩
    · simp [Instr.mapUpdate, run_underlying ht, hg, checkKey_int w hk, findKey_int w hk k _ _ h4, hset]
    · intro e he
      simp only [Array.toList_push, List.mem_append, List.mem_singleton] at he
      rcases he with he | rfl
      · exact h1 e he
      · exact ⟨rfl, k, rfl⟩
    · intro x
      simp only [Array.toList_push, List.any_append, h2 x, List.any_cons, List.any_nil, Bool.or_false]
      congr 1

end
end Go.Proofs.Ytaibdcglhibglaa
