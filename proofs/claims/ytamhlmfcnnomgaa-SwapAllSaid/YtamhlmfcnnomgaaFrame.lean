/- Which blocks of memory a step may turn: 'Kp S w w'': each block that was there lies as it lay, but for those of S. Nothing here names the program. -/
import Derived.Test.YtamhlmfcnnomgaaBase
namespace Go.Proofs.Ytamhlmfcnnomgaa
open Go.RowKit
set_option linter.unusedVariables false

structure Kp (S : Nat → Prop) (w w' : World) : Prop where
  os : w'.os = w.os
  tape : w'.tape = w.tape
  output : w'.output = w.output
  size : w.heap.size ≤ w'.heap.size
  block : ∀ k, k < w.heap.size → ¬ S k → w'.heap[k]? = w.heap[k]?

/-- No block is turned. -/
def no : Nat → Prop := fun _ => False

theorem Kp.refl (S : Nat → Prop) (w : World) : Kp S w w := ⟨rfl, rfl, rfl, Nat.le_refl _, fun _ _ _ => rfl⟩

theorem Kp.trans {S : Nat → Prop} {a b c : World} (h : Kp S a b) (k : Kp S b c) : Kp S a c :=
  ⟨k.os.trans h.os, k.tape.trans h.tape, k.output.trans h.output, Nat.le_trans h.size k.size,
    fun i hi hn => (k.block i (Nat.lt_of_lt_of_le hi h.size) hn).trans (h.block i hi hn)⟩

theorem Kp.mono {S T : Nat → Prop} {w w' : World} (h : Kp S w w') (hs : ∀ k, k < w.heap.size → S k → T k) : Kp T w w' :=
  ⟨h.os, h.tape, h.output, h.size, fun k hk hn => h.block k hk (fun hS => hn (hs k hk hS))⟩

theorem Kp.of_no {T : Nat → Prop} {w w' : World} (h : Kp no w w') : Kp T w w' := h.mono fun _ _ h => h.elim

/-- Two steps, each with its own blocks. -/
theorem Kp.then {S T U : Nat → Prop} {a b c : World} (h : Kp S a b) (k : Kp T b c) (h1 : ∀ i, i < a.heap.size → S i → U i) (h2 : ∀ i, i < a.heap.size → T i → U i) : Kp U a c :=
  ⟨k.os.trans h.os, k.tape.trans h.tape, k.output.trans h.output, Nat.le_trans h.size k.size,
    fun i hi hn => (k.block i (Nat.lt_of_lt_of_le hi h.size) (fun hT => hn (h2 i hi hT))).trans (h.block i hi (fun hS => hn (h1 i hi hS)))⟩

theorem Kp.alloc {S : Nat → Prop} {a w : World} (h : Kp S a w) (o : Obj) : Kp S a (w.alloc o) :=
  h.trans ⟨rfl, rfl, rfl, by simp, fun k hk _ => Below.heap_alloc _ _ _ hk⟩

theorem Kp.drew {S : Nat → Prop} {a w : World} (h : Kp S a w) : Kp S a w.drew := ⟨h.os, h.tape, h.output, h.size, h.block⟩

theorem Kp.drewN {S : Nat → Prop} {a w : World} (h : Kp S a w) (n : Nat) : Kp S a (w.drewN n) := ⟨h.os, h.tape, h.output, h.size, h.block⟩

theorem Kp.setCell {S : Nat → Prop} {a w : World} (h : Kp S a w) {p : Addr} (hp : S p.block ∨ a.heap.size ≤ p.block) (u : Value) : Kp S a (w.setCell p u) :=
  ⟨h.os, h.tape, h.output, by simpa [World.setCell] using h.size, fun k hk hn =>
    (Below.heap_setCell _ _ _ _ (hp.elim (fun hp e => hn (by rw [e]; exact hp)) (fun hp => by omega))).trans (h.block k hk hn)⟩

theorem Kp.putObj {S : Nat → Prop} {a w : World} (h : Kp S a w) {r : Nat} (hr : S r ∨ a.heap.size ≤ r) (o : Obj) : Kp S a (w.putObj r o) :=
  ⟨h.os, h.tape, h.output, by simpa using h.size, fun k hk hn =>
    (World.putObj_heap_other (hr.elim (fun hp e => hn (by rw [e]; exact hp)) (fun hp => by omega))).trans (h.block k hk hn)⟩

theorem Kp.grown {S : Nat → Prop} {a w w' : World} {row : Option Nat} (h : Kp S a w) (hg : w.grownBy w' row) (hr : ∀ k, row = some k → S k ∨ a.heap.size ≤ k) : Kp S a w' :=
  ⟨hg.os.trans h.os, hg.tape.trans h.tape, hg.output.trans h.output, Nat.le_trans h.size hg.size, fun k hk hn =>
    (hg.block k (Nat.lt_of_lt_of_le hk h.size) (fun e => (hr k e.symm).elim hn (fun hp => by omega))).trans (h.block k hk hn)⟩

theorem Kp.below {S : Nat → Prop} {w w' : World} (h : Kp S w w') {n : Nat} (hn : n ≤ w.heap.size) (hs : ∀ k, k < n → ¬ S k) : Below n w w' :=
  ⟨h.os, h.tape, h.output, h.size, fun k hk => h.block k (by omega) (hs k hk)⟩

theorem Kp.of_below {S : Nat → Prop} {w w' : World} {n : Nat} (h : Below n w w') (hs : ∀ k, k < w.heap.size → n ≤ k → S k) : Kp S w w' :=
  ⟨h.os, h.tape, h.output, h.size, fun k hk hn => h.block k ((Nat.lt_or_ge k n).elim id (fun h => absurd (hs k hk h) hn))⟩

theorem Kp.of_below_self {w w' : World} (h : Below w.heap.size w w') : Kp no w w' := Kp.of_below h fun _ h1 h2 => by omega

theorem Kp.self_below {w w' : World} (h : Kp no w w') : Below w.heap.size w w' := h.below (Nat.le_refl _) fun _ _ h => h

/-- What lies in a block that the step does not turn. -/
theorem Kp.at {S : Nat → Prop} {w w' : World} (h : Kp S w w') {k : Nat} {o : Obj} (hk : w.heap[k]? = some o) (hn : ¬ S k) : w'.heap[k]? = some o :=
  (h.block k (Array.getElem?_eq_some_iff.1 hk).1 hn).trans hk

theorem Kp.cell {S : Nat → Prop} {w w' : World} (h : Kp S w w') {p : Addr} {v : Value} (hc : w.cell? p = some v) (hn : ¬ S p.block) : w'.cell? p = some v := by
  obtain ⟨b, o, sp⟩ := p
  have hlt : b < w.heap.size := by
    rcases Nat.lt_or_ge b w.heap.size with h | h
    · exact h
    · simp [World.cell?, Array.getElem?_eq_none h] at hc
  exact (World.cell?_of_block (w := w) (h.block b hlt hn)).trans hc

theorem Kp.frozen {S : Nat → Prop} {w w' : World} (h : Kp S w w') {p : Addr} (hp : p.block < w.heap.size) (hn : ¬ S p.block) : w'.frozen? p = w.frozen? p :=
  World.frozen?_of_block (w := w) (h.block p.block hp hn)

/-! ### A block known whole -/
theorem blk_lt {w : World} {b : Nat} {o : Obj} (h : w.heap[b]? = some o) : b < w.heap.size := (Array.getElem?_eq_some_iff.1 h).1

theorem blk_cell {w : World} {b : Nat} {cs : Array Value} {t : TypeId} {fz : Nat × Nat} (h : w.heap[b]? = some (.cells cs t fz)) (i : Nat) (v : Value) (hv : cs[i]? = some v) : w.cell? ⟨b, i, none⟩ = some v := by
  simp [World.cell?, h, hv]

theorem blk_frozen {w : World} {b : Nat} {cs : Array Value} {t : TypeId} (h : w.heap[b]? = some (.cells cs t (0, 0))) (i : Nat) : w.frozen? ⟨b, i, none⟩ = false := by
  simp [World.frozen?, h]

theorem blk_setCell {w : World} {b : Nat} {cs : Array Value} {t : TypeId} {fz : Nat × Nat} (h : w.heap[b]? = some (.cells cs t fz)) (i : Nat) (v : Value) :
    (w.setCell ⟨b, i, none⟩ v).heap[b]? = some (.cells (cs.setIfInBounds i v) t fz) := by
  simp [World.setCell, Array.getElem?_modify, h]

theorem blk_setCell_other {w : World} {b : Nat} {a : Addr} (h : b ≠ a.block) (v : Value) : (w.setCell a v).heap[b]? = w.heap[b]? :=
  Below.heap_setCell _ _ _ _ h

theorem blk_new (w : World) (o : Obj) : (w.alloc o).heap[w.heap.size]? = some o := World.alloc_heap_new w o

theorem blk_alloc {w : World} {b : Nat} {o' : Obj} (h : w.heap[b]? = some o') (o : Obj) : (w.alloc o).heap[b]? = some o' :=
  (Below.heap_alloc _ _ _ (blk_lt h)).trans h

theorem blk_drew {w : World} {b : Nat} {o : Obj} (h : w.heap[b]? = some o) : w.drew.heap[b]? = some o := h


/-! ### A slice that is read: element i is f i (elements of one cell) -/
def Rd (w : World) (a : Option Addr) (len : Nat) (f : Nat → Value) : Prop :=
  ∀ i, i < len → ∃ b o, a = some ⟨b, o, none⟩ ∧ w.cell? ⟨b, o + i, none⟩ = some (f i)

theorem Rd.kept {S : Nat → Prop} {w w' : World} {a : Option Addr} {len : Nat} {f : Nat → Value} (h : Rd w a len f) (hk : Kp S w w')
    (hs : ∀ x, a = some x → ¬ S x.block) : Rd w' a len f := fun i hi => by
  obtain ⟨b, o, ha, hc⟩ := h i hi
  exact ⟨b, o, ha, hk.cell hc (show ¬ S b from hs ⟨b, o, none⟩ ha)⟩

theorem Rd.no {w w' : World} {a : Option Addr} {len : Nat} {f : Nat → Value} (h : Rd w a len f) (hk : Kp no w w') : Rd w' a len f := h.kept hk fun _ _ h => h

theorem Rd.below {w w' : World} {a : Option Addr} {len : Nat} {f : Nat → Value} (h : Rd w a len f) (hk : Below w.heap.size w w') : Rd w' a len f := h.no (Kp.of_below_self hk)

theorem Rd.mono {w : World} {a : Option Addr} {len len' : Nat} {f : Nat → Value} (h : Rd w a len f) (hl : len' ≤ len) : Rd w a len' f := fun i hi => h i (by omega)

theorem Rd.congr {w : World} {a : Option Addr} {len : Nat} {f g : Nat → Value} (h : Rd w a len f) (he : ∀ i, i < len → f i = g i) : Rd w a len g := fun i hi => by
  obtain ⟨b, o, ha, hc⟩ := h i hi
  exact ⟨b, o, ha, by rw [hc, he i hi]⟩

theorem IsRow.rd {k : IntKind} {w : World} {a : Option Addr} {len cap : Nat} {zs : List Int} (h : IsRow k w a len cap zs) : Rd w a len (fun i => .int k (zs.getD i 0)) := by
  intro i hi
  rcases h.plain with h0 | ⟨b, o, ha, hl, _, _, _, hc, _⟩
  · omega
  · exact ⟨b, o, ha, hc i (by omega)⟩

theorem IsRow.len {k : IntKind} {w : World} {a : Option Addr} {len cap : Nat} {zs : List Int} (h : IsRow k w a len cap zs) : len ≤ cap ∧ cap ≤ maxLen ∧ (len = 0 ∨ zs.length = cap) ∧ ∀ n ∈ zs, (Lit.int k n).wf = true := by
  rcases h with ⟨rfl, rfl, rfl, rfl⟩ | ⟨_, rfl, hl, hm, hz, _, hw⟩
  · exact ⟨Nat.le_refl _, Nat.zero_le _, .inl rfl, by simp⟩
  · exact ⟨hl, hm, .inr hz, hw⟩

end Go.Proofs.Ytamhlmfcnnomgaa
