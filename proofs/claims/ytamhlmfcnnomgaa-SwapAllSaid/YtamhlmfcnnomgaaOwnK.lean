/- A slice of the call's own whose elements have k cells each: what it holds, append, reading. Nothing here names the program. -/
import Derived.Test.YtamhlmfcnnomgaaFrame
import Derived.Laws.AppendOwnNone
import Derived.OwnWalkIn
namespace Go.Proofs.Ytamhlmfcnnomgaa
open Go.RowKit
set_option linter.unusedVariables false

/-- What the walk asks of a slice type t and its element type e of k cells. -/
structure ElemK (P : Program) (t e : TypeId) (k : Nat) (z : Value) (bytes : Nat) : Prop where
  under : P.underlying t = some (.slice e)
  info : (P.info? e).map (fun i => (i.zero, i.size, i.bytes)) = some (some z, k, bytes)
  cells : z.cells.size = k
  pos : 0 < k

/-- The slice v of n elements is the call's own (from block 'base' on): its cells are xs. -/
def OwnK (w : World) (base : Nat) (e : TypeId) (k : Nat) (v : Value) (n : Nat) (xs : List Value) : Prop := w.ownsRow base e k v n xs

theorem OwnK.nil (w : World) (base : Nat) (e : TypeId) (k : Nat) : OwnK w base e k (.slice none 0 0) 0 [] := World.ownsRow_nil w base e k

theorem OwnK.form {w : World} {base : Nat} {e : TypeId} {k : Nat} {v : Value} {n : Nat} {xs : List Value} (h : OwnK w base e k v n xs) :
    (v = .slice none 0 0 ∧ n = 0 ∧ xs = []) ∨ ∃ g cap, v = .slice (some ⟨g, 0, none⟩) n cap ∧ base ≤ g ∧ g < w.heap.size ∧ n ≤ cap ∧ cap ≤ maxLen ∧ xs.length = n * k ∧
      (∀ i, i < n * k → w.cell? ⟨g, i, none⟩ = some (xs.getD i undef)) ∧ ∀ i, w.frozen? ⟨g, i, none⟩ = false := by
  obtain ⟨hl, h⟩ := h
  rcases h with ⟨rfl, h0⟩ | ⟨g, cap, cur, rfl, hb, hg, hn, hm, hs, ht⟩
  · refine .inl ⟨rfl, h0, List.eq_nil_of_length_eq_zero ?_⟩
    rw [hl, h0, Nat.zero_mul]
  · refine .inr ⟨g, cap, rfl, hb, blk_lt hg, hn, hm, hl, fun i hi => ?_, fun i => blk_frozen hg i⟩
    refine blk_cell hg i _ ?_
    have h1 : (cur.toList.take (n * k))[i]? = cur.toList[i]? := by rw [List.getElem?_take, if_pos hi]
    rw [ht] at h1
    rw [← Array.getElem?_toList, ← h1, List.getElem?_eq_getElem (by omega), List.getD_eq_getElem?_getD, List.getElem?_eq_getElem (by omega)]
    rfl

theorem OwnK.rd {w : World} {base : Nat} {e : TypeId} {k : Nat} {a : Option Addr} {m cap n : Nat} {xs : List Value} (h : OwnK w base e k (.slice a m cap) n xs) :
    m = n ∧ Rd w a (n * k) (fun i => xs.getD i undef) ∧ (a = none → cap = 0) := by
  rcases h.form with ⟨h1, rfl, rfl⟩ | ⟨g, cap', h1, _, _, _, _, _, hc, _⟩
  · cases h1; exact ⟨rfl, fun i hi => (by omega), fun _ => rfl⟩
  · cases h1
    exact ⟨rfl, fun i hi => ⟨g, 0, rfl, by simpa using hc i hi⟩, fun h => (by cases h)⟩

theorem OwnK.slice {w : World} {base : Nat} {e : TypeId} {k : Nat} {v : Value} {n : Nat} {xs : List Value} (h : OwnK w base e k v n xs) :
    ∃ a cap, v = .slice a n cap ∧ n ≤ cap ∧ cap ≤ maxLen ∧ (a = none → cap = 0) ∧ Rd w a (n * k) (fun i => xs.getD i undef) ∧ (∀ x, a = some x → base ≤ x.block ∧ x.block < w.heap.size) := by
  rcases h.form with ⟨rfl, rfl, rfl⟩ | ⟨g, cap, rfl, h1, h2, h3, h4, h5, hc, _⟩
  · exact ⟨none, 0, rfl, Nat.le_refl _, Nat.zero_le _, fun _ => rfl, fun i hi => (by omega), fun x hx => (by cases hx)⟩
  · exact ⟨some ⟨g, 0, none⟩, cap, rfl, h3, h4, fun h => (by cases h), fun i hi => ⟨g, 0, rfl, by simpa using hc i hi⟩, fun x hx => (by cases hx; exact ⟨h1, h2⟩)⟩

theorem OwnK.block {w : World} {base : Nat} {e : TypeId} {k : Nat} {v : Value} {n : Nat} {xs : List Value} (h : OwnK w base e k v n xs) {g : Nat} (hk : v.ownBlock = some g) : base ≤ g ∧ g < w.heap.size := World.ownsRow.lt h g hk

theorem OwnK.kept {S : Nat → Prop} {w w' : World} {base : Nat} {e : TypeId} {k : Nat} {v : Value} {n : Nat} {xs : List Value} (h : OwnK w base e k v n xs) (hk : Kp S w w') (hs : ∀ g, v.ownBlock = some g → ¬ S g) : OwnK w' base e k v n xs := by
  refine ⟨h.1, ?_⟩
  rcases h.2 with hn | ⟨g, cap, cur, rfl, hb, hg, rest⟩
  · exact .inl hn
  · exact .inr ⟨g, cap, cur, rfl, hb, hk.at hg (hs g rfl), rest⟩

theorem OwnK.no {w w' : World} {base : Nat} {e : TypeId} {k : Nat} {v : Value} {n : Nat} {xs : List Value} (h : OwnK w base e k v n xs) (hk : Kp no w w') : OwnK w' base e k v n xs := h.kept hk fun _ _ h => h

theorem OwnK.mono {w : World} {base base' : Nat} {e : TypeId} {k : Nat} {v : Value} {n : Nat} {xs : List Value} (h : OwnK w base e k v n xs) (hb : base' ≤ base) : OwnK w base' e k v n xs := by
  refine ⟨h.1, ?_⟩
  rcases h.2 with hn | ⟨g, cap, cur, rfl, hbg, rest⟩
  · exact .inl hn
  · exact .inr ⟨g, cap, cur, rfl, by omega, rest⟩

theorem Kp.of_grownK {w w' : World} {row : Option Nat} (hg : w.grownBy w' row) : Kp (fun k => row = some k) w w' :=
  (Kp.refl _ w).grown hg fun _ h => .inl h

theorem rd_cellsK {w : World} {a : Option Addr} {ys : List Value} {x : Addr} (h : Rd w a ys.length (fun i => ys.getD i undef)) (hx : a = some x) : ∀ j u, ys[j]? = some u → w.cell? (x.add j) = some u := by
  intro j u hu
  have hj : j < ys.length := (List.getElem?_eq_some_iff.1 hu).1
  obtain ⟨b, o, ha, hc⟩ := h j hj
  rw [hx] at ha
  cases ha
  have hv : ys.getD j undef = u := by rw [List.getD_eq_getElem?_getD, hu]; rfl
  have hc : w.cell? ⟨b, o + j, none⟩ = some (ys.getD j undef) := hc
  rw [hv] at hc
  by_cases h0 : j = 0
  · subst h0; simpa [Addr.add] using hc
  · simpa [Addr.add, h0] using hc

/-- append(v, y...): v the call's own, y of m elements (nil, too). -/
theorem run_appK {P : Program} {w : World} {base : Nat} {t ty e : TypeId} {k : Nat} {z : Value} {bytes : Nat} (E : ElemK P t e k z bytes) {v : Value} {n : Nat} {xs : List Value} (h : OwnK w base e k v n xs) (hb : base ≤ w.heap.size)
    {a : Option Addr} {m c : Nat} {ys : List Value} (hl : ys.length = m * k) (hy : Rd w a ys.length (fun i => ys.getD i undef)) (h1 : ∀ u ∈ ys, u.oneCell' = true)
    (h63 : n + m ≤ maxLen) (hbytes : (n + m) * bytes ≤ 140737488355328) (hnil : a = none → c = 0) :
    ∃ v' w', (Builtin.append_ #[t, t] ty #[v, .slice a m c]).run P w = .ok v' w' ∧ OwnK w' base e k v' (n + m) (xs ++ ys) ∧ Kp (fun k => v.ownBlock = some k) w w' ∧
      (v' = .slice none 0 0 ↔ v = .slice none 0 0 ∧ m = 0) := by
  obtain ⟨i, hi, hz, hsz, hby⟩ := info_parts E.info
  cases a with
  | none =>
    have h0 : ys = [] := by
      cases ys with
      | nil => rfl
      | cons y r => obtain ⟨b, o, ha, _⟩ := hy 0 (by simp); cases ha
    subst h0
    obtain rfl := hnil rfl
    have hm : m = 0 := by
      rcases Nat.mul_eq_zero.1 hl.symm with h | h
      · exact h
      · have := E.pos; omega
    subst hm
    refine ⟨v, w, run_append_owned_none (P := P) (w := w) base t ty e i k E.under hi v n xs h, ?_, Kp.refl _ w, by simp⟩
    rw [List.append_nil]; exact h
  | some x =>
    obtain ⟨v', w', hr, ho, hg, hn⟩ := run_append_own (P := P) w base t ty e i z k bytes E.under hi hz hsz hby E.cells E.pos v n xs h x m c ys hl (rd_cellsK hy rfl) h1 h63 hbytes hb
    exact ⟨v', w', hr, ho, Kp.of_grownK hg, hn⟩

/-- The same, as a step of the walk. -/
theorem wpList_appK {P : Program} {w : World} {ops : Array Oper} {rest : List Oper} {o : Oper} {ac : Act} {Q : Exit → Act → World → Prop} (hgd : o.guard = none) (s x : Operand) (t : TypeId)
    (ho : o.op = .call { callee := .builtin .append, args := #[s, x], argTypes := #[t, t] })
    (base : Nat) {e : TypeId} {k : Nat} {z : Value} {bytes : Nat} (E : ElemK P t e k z bytes) (v : Value) {n : Nat} {xs : List Value} (hs : ac.eval s = v) (h : OwnK w base e k v n xs) (hb : base ≤ w.heap.size)
    {a : Option Addr} {m c : Nat} (ys : List Value) (hx : ac.eval x = .slice a m c) (hl : ys.length = m * k) (hy : Rd w a ys.length (fun i => ys.getD i undef)) (h1 : ∀ u ∈ ys, u.oneCell' = true)
    (h63 : n + m ≤ maxLen) (hbytes : (n + m) * bytes ≤ 140737488355328) (hnil : a = none → c = 0)
    (kk : ∀ v' w', OwnK w' base e k v' (n + m) (xs ++ ys) → Kp (fun k => v.ownBlock = some k) w w' → (v' = .slice none 0 0 ↔ v = .slice none 0 0 ∧ m = 0) → wpList P ops Q rest (ac.put o.dst v') w') :
    wpList P ops Q (o :: rest) ac w := by
  obtain ⟨v', w', hr, h2, h3, h4⟩ := run_appK (P := P) (ty := o.type) E h hb hl hy h1 h63 hbytes hnil
  refine wpList_plain hgd fun K hK => ?_
  unfold Oper.wp execOp
  simp only [ho, resolve, invoke, builtin, Sem.run_bind, Sem.run_pure, Result.andThen_ok, List.map_toArray, List.map_cons, List.map_nil, hs, hx, hr]
  exact hK _ _ (kk v' w' h2 h3 h4)

/-- The same, inside a fence. -/
theorem wpListIn_appK {F : Fence} {N : Nat} {P : Program} {w : World} {ops : Array Oper} {rest : List Oper} {o : Oper} {ac : Act} {Q : Exit → Act → World → Prop} (hgd : o.guard = none) (s x : Operand) (t : TypeId)
    (ho : o.op = .call { callee := .builtin .append, args := #[s, x], argTypes := #[t, t] })
    (base : Nat) {e : TypeId} {k : Nat} {z : Value} {bytes : Nat} (E : ElemK P t e k z bytes) (v : Value) {n : Nat} {xs : List Value} (hs : ac.eval s = v) (h : OwnK w base e k v n xs) (hb : base ≤ w.heap.size)
    {a : Option Addr} {m c : Nat} (ys : List Value) (hx : ac.eval x = .slice a m c) (hl : ys.length = m * k) (hy : Rd w a ys.length (fun i => ys.getD i undef)) (h1 : ∀ u ∈ ys, u.oneCell' = true)
    (h63 : n + m ≤ maxLen) (hbytes : (n + m) * bytes ≤ 140737488355328) (hnil : a = none → c = 0)
    (kk : ∀ v' w', OwnK w' base e k v' (n + m) (xs ++ ys) → Kp (fun k => v.ownBlock = some k) w w' → (v' = .slice none 0 0 ↔ v = .slice none 0 0 ∧ m = 0) → wpListIn F N P ops Q rest (ac.put o.dst v') w') :
    wpListIn F N P ops Q (o :: rest) ac w := by
  refine wpListIn_plain hgd fun K hK' => ?_
  obtain ⟨v', w', hr, h2, h3, h4⟩ := run_appK (P := P) (ty := o.type) E h hb hl hy h1 h63 hbytes hnil
  unfold Oper.wpIn
  refine ⟨?_, ?_⟩
  · simp [Oper.about, ho, resolve, Target.leads, Sem.run_pure]
  · rw [Oper.semAt_plain F _ _ (by rw [ho]; intro c hc'; cases hc')]
    simp [execOp, ho, resolve, invoke, builtin, hs, hx, hr, Result.andThen]
    exact hK' _ _ (kk v' w' h2 h3 h4)

theorem rd_newK (w : World) (e : TypeId) (ys : List Value) : Rd (w.alloc (.cells ys.toArray e)) (some ⟨w.heap.size, 0, none⟩) ys.length (fun i => ys.getD i undef) := fun i hi =>
  ⟨w.heap.size, 0, rfl, by
    rw [Nat.zero_add]
    refine blk_cell (blk_new w _) i _ ?_
    show ys.toArray[i]? = some (ys.getD i undef)
    rw [List.getElem?_toArray, List.getElem?_eq_getElem hi, List.getD_eq_getElem?_getD, List.getElem?_eq_getElem hi]
    rfl⟩
end Go.Proofs.Ytamhlmfcnnomgaa
