/- Slices that a call made itself ('Own'), and appending to them (elements of one cell). Nothing here names the program. -/
import Derived.Test.YtilpkfgdlehmpaaDoorCBv
import Derived.Laws.AppendOwnNone
import Derived.Laws.BytesString
namespace Go.Proofs.YtilpkfgdlehmpaaDoor.Crc
open Go.RowKit
set_option linter.unusedVariables false

/-- What the walk asks of a slice type t and its element type e. -/
structure Elem (P : Program) (t e : TypeId) (z : Value) (bytes : Nat) : Prop where
  under : P.underlying t = some (.slice e)
  info : (P.info? e).map (fun i => (i.zero, i.size, i.bytes)) = some (some z, 1, bytes)
  one : z.cells.size = 1

/-- The slice v is the call's own (from block 'base' on): its elements are xs. -/
def Own (w : World) (base : Nat) (e : TypeId) (v : Value) (xs : List Value) : Prop := w.ownsRow base e 1 v xs.length xs

theorem Own.nil (w : World) (base : Nat) (e : TypeId) : Own w base e (.slice none 0 0) [] := World.ownsRow_nil w base e 1

theorem Own.form {w : World} {base : Nat} {e : TypeId} {v : Value} {xs : List Value} (h : Own w base e v xs) :
    (v = .slice none 0 0 ∧ xs = []) ∨ ∃ g cap, v = .slice (some ⟨g, 0, none⟩) xs.length cap ∧ base ≤ g ∧ g < w.heap.size ∧ xs.length ≤ cap ∧ cap ≤ maxLen ∧ w.frozen? ⟨g, 0, none⟩ = false ∧
      (∀ i, i < xs.length → w.cell? ⟨g, i, none⟩ = some (xs.getD i undef)) ∧ ∀ i, w.frozen? ⟨g, i, none⟩ = false := by
  obtain ⟨hl, h⟩ := h
  rcases h with ⟨rfl, h0⟩ | ⟨g, cap, cur, rfl, hb, hg, hn, hm, hs, ht⟩
  · exact .inl ⟨rfl, List.eq_nil_of_length_eq_zero h0⟩
  · refine .inr ⟨g, cap, rfl, hb, blk_lt hg, hn, hm, blk_frozen hg 0, fun i hi => ?_, fun i => blk_frozen hg i⟩
    refine blk_cell hg i _ ?_
    have h1 : (cur.toList.take (xs.length * 1))[i]? = cur.toList[i]? := by rw [List.getElem?_take, if_pos (by omega)]
    rw [ht] at h1
    rw [← Array.getElem?_toList, ← h1, List.getElem?_eq_getElem hi, List.getD_eq_getElem?_getD, List.getElem?_eq_getElem hi]
    rfl

theorem Own.rd {w : World} {base : Nat} {e : TypeId} {a : Option Addr} {n cap : Nat} {xs : List Value} (h : Own w base e (.slice a n cap) xs) : n = xs.length ∧ Rd w a n (fun i => xs.getD i undef) := by
  rcases h.form with ⟨h1, rfl⟩ | ⟨g, cap', h1, _, _, _, _, _, hc, _⟩
  · cases h1; exact ⟨rfl, fun i hi => by omega⟩
  · cases h1
    exact ⟨rfl, fun i hi => ⟨g, 0, rfl, by simpa using hc i hi⟩⟩

theorem Own.cons {w : World} {base : Nat} {e : TypeId} {v : Value} {xs : List Value} (h : Own w base e v xs) {n : Nat} (hn : xs.length = n) (h0 : 0 < n) :
    ∃ g cap, v = .slice (some ⟨g, 0, none⟩) n cap ∧ base ≤ g ∧ g < w.heap.size ∧ n ≤ cap ∧ cap ≤ 9223372036854775807 := by
  subst hn
  rcases h.form with ⟨_, rfl⟩ | ⟨g, cap, hv, h1, h2, h3, h4, _⟩
  · simp at h0
  · exact ⟨g, cap, hv, h1, h2, h3, by simpa [maxLen] using h4⟩

theorem Own.block {w : World} {base : Nat} {e : TypeId} {v : Value} {xs : List Value} (h : Own w base e v xs) {k : Nat} (hk : v.ownBlock = some k) : base ≤ k ∧ k < w.heap.size := World.ownsRow.lt h k hk

theorem Own.kept {S : Nat → Prop} {w w' : World} {base : Nat} {e : TypeId} {v : Value} {xs : List Value} (h : Own w base e v xs) (hk : Kp S w w') (hs : ∀ k, v.ownBlock = some k → ¬ S k) : Own w' base e v xs := by
  refine ⟨h.1, ?_⟩
  rcases h.2 with hn | ⟨g, cap, cur, rfl, hb, hg, rest⟩
  · exact .inl hn
  · exact .inr ⟨g, cap, cur, rfl, hb, hk.at hg (hs g rfl), rest⟩

theorem Own.no {w w' : World} {base : Nat} {e : TypeId} {v : Value} {xs : List Value} (h : Own w base e v xs) (hk : Kp no w w') : Own w' base e v xs := h.kept hk fun _ _ h => h

theorem Own.mono {w : World} {base base' : Nat} {e : TypeId} {v : Value} {xs : List Value} (h : Own w base e v xs) (hb : base' ≤ base) : Own w base' e v xs := by
  refine ⟨h.1, ?_⟩
  rcases h.2 with hn | ⟨g, cap, cur, rfl, hbg, rest⟩
  · exact .inl hn
  · exact .inr ⟨g, cap, cur, rfl, by omega, rest⟩

theorem Kp.of_grown {w w' : World} {row : Option Nat} (hg : w.grownBy w' row) : Kp (fun k => row = some k) w w' :=
  (Kp.refl _ w).grown hg fun _ h => .inl h

theorem rd_cells {w : World} {a : Option Addr} {ys : List Value} {x : Addr} (h : Rd w a ys.length (fun i => ys.getD i undef)) (hx : a = some x) : ∀ j u, ys[j]? = some u → w.cell? (x.add j) = some u := by
  intro j u hu
  have hj : j < ys.length := (List.getElem?_eq_some_iff.1 hu).1
  obtain ⟨b, o, ha, hc⟩ := h j hj
  rw [hx] at ha
  cases ha
  have hv : ys.getD j undef = u := by rw [List.getD_eq_getElem?_getD, hu]; rfl
  have hc : w.cell? ⟨b, o + j, none⟩ = some (ys.getD j undef) := hc
  rw [hv] at hc
  by_cases h0 : j = 0
  · subst h0; simpa [Addr.add] using hc
  · simpa [Addr.add, h0] using hc

/-- append(v, y...): v the call's own. -/
theorem run_app {P : Program} {w : World} {base : Nat} {t ty e : TypeId} {z : Value} {bytes : Nat} (E : Elem P t e z bytes) {v : Value} {xs : List Value} (h : Own w base e v xs) (hb : base ≤ w.heap.size)
    {a : Option Addr} {c : Nat} {ys : List Value} (hy : Rd w a ys.length (fun i => ys.getD i undef)) (h1 : ∀ u ∈ ys, u.oneCell' = true)
    (h63 : xs.length + ys.length ≤ maxLen) (hbytes : (xs.length + ys.length) * bytes ≤ 140737488355328) (hnil : a = none → c = 0) :
    ∃ v' w', (Builtin.append_ #[t, t] ty #[v, .slice a ys.length c]).run P w = .ok v' w' ∧ Own w' base e v' (xs ++ ys) ∧ Kp (fun k => v.ownBlock = some k) w w' ∧
      (v' = .slice none 0 0 ↔ v = .slice none 0 0 ∧ ys = []) := by
  obtain ⟨i, hi, hz, hsz, hby⟩ := info_parts E.info
  cases a with
  | none =>
    have h0 : ys = [] := by
      cases ys with
      | nil => rfl
      | cons y r => obtain ⟨b, o, ha, _⟩ := hy 0 (by simp); cases ha
    subst h0
    obtain rfl := hnil rfl
    refine ⟨v, w, run_append_owned_none (P := P) (w := w) base t ty e i 1 E.under hi v xs.length xs h, ?_, Kp.refl _ w, by simp⟩
    rw [List.append_nil]; exact h
  | some x =>
    obtain ⟨v', w', hr, ho, hg, hn⟩ := run_append_own (P := P) w base t ty e i z 1 bytes E.under hi hz hsz hby E.one (by omega) v xs.length xs h x ys.length c ys (by simp) (rd_cells hy rfl) h1 h63 hbytes hb
    refine ⟨v', w', hr, ?_, Kp.of_grown hg, ?_⟩
    · unfold Own; rw [List.length_append]; exact ho
    · rw [hn]
      constructor
      · rintro ⟨a1, a2⟩; exact ⟨a1, List.eq_nil_of_length_eq_zero a2⟩
      · rintro ⟨a1, rfl⟩; exact ⟨a1, rfl⟩

/-- The same, as a step of the walk. -/
theorem wpList_app {P : Program} {w : World} {ops : Array Oper} {rest : List Oper} {o : Oper} {ac : Act} {Q : Exit → Act → World → Prop} (hgd : o.guard = none) (s x : Operand) (t : TypeId)
    (ho : o.op = .call { callee := .builtin .append, args := #[s, x], argTypes := #[t, t] })
    (base : Nat) {e : TypeId} {z : Value} {bytes : Nat} (E : Elem P t e z bytes) (v : Value) {xs : List Value} (hs : ac.eval s = v) (h : Own w base e v xs) (hb : base ≤ w.heap.size)
    {a : Option Addr} {m c : Nat} (ys : List Value) (hx : ac.eval x = .slice a m c) (hm : ys.length = m) (hy : Rd w a ys.length (fun i => ys.getD i undef)) (h1 : ∀ u ∈ ys, u.oneCell' = true)
    (h63 : xs.length + ys.length ≤ maxLen) (hbytes : (xs.length + ys.length) * bytes ≤ 140737488355328) (hnil : a = none → c = 0)
    (k : ∀ v' w', Own w' base e v' (xs ++ ys) → Kp (fun k => v.ownBlock = some k) w w' → (v' = .slice none 0 0 ↔ v = .slice none 0 0 ∧ ys = []) → wpList P ops Q rest (ac.put o.dst v') w') :
    wpList P ops Q (o :: rest) ac w := by
  obtain ⟨v', w', hr, h2, h3, h4⟩ := run_app (P := P) (ty := o.type) E h hb hy h1 h63 hbytes hnil
  subst hm
  refine wpList_plain hgd fun K hK => ?_
  unfold Oper.wp execOp
  simp only [ho, resolve, invoke, builtin, Sem.run_bind, Sem.run_pure, Result.andThen_ok, List.map_toArray, List.map_cons, List.map_nil, hs, hx, hr]
  exact hK _ _ (k v' w' h2 h3 h4)

/-- A new block that holds a row of elements. -/
theorem own_new {w : World} {base : Nat} (hb : base ≤ w.heap.size) (e : TypeId) (xs : List Value) (hm : xs.length ≤ maxLen) :
    Own (w.alloc (.cells xs.toArray e)) base e (.slice (some ⟨w.heap.size, 0, none⟩) xs.length xs.length) xs :=
  ⟨by simp, .inr ⟨w.heap.size, xs.length, xs.toArray, rfl, hb, blk_new w _, Nat.le_refl _, hm, by simp, by simp⟩⟩

theorem rd_new (w : World) (e : TypeId) (ys : List Value) : Rd (w.alloc (.cells ys.toArray e)) (some ⟨w.heap.size, 0, none⟩) ys.length (fun i => ys.getD i undef) := fun i hi =>
  ⟨w.heap.size, 0, rfl, by
    rw [Nat.zero_add]
    refine blk_cell (blk_new w _) i _ ?_
    show ys.toArray[i]? = some (ys.getD i undef)
    rw [List.getElem?_toArray, List.getElem?_eq_getElem hi, List.getD_eq_getElem?_getD, List.getElem?_eq_getElem hi]
    rfl⟩

theorem rd_new' (w : World) (e : TypeId) (ys : List Value) (fz : Nat × Nat) : Rd (w.alloc (.cells ys.toArray e fz)) (some ⟨w.heap.size, 0, none⟩) ys.length (fun i => ys.getD i undef) := fun i hi =>
  ⟨w.heap.size, 0, rfl, by
    rw [Nat.zero_add]
    refine blk_cell (blk_new w _) i _ ?_
    show ys.toArray[i]? = some (ys.getD i undef)
    rw [List.getElem?_toArray, List.getElem?_eq_getElem hi, List.getD_eq_getElem?_getD, List.getElem?_eq_getElem hi]
    rfl⟩

/-- A store into the call's own row. -/
theorem Own.store {w : World} {base : Nat} {e : TypeId} {g n cap : Nat} {xs : List Value} (h : Own w base e (.slice (some ⟨g, 0, none⟩) n cap) xs) (i : Nat) (hi : i < xs.length) (u : Value) :
    Own (w.setCell ⟨g, i, none⟩ u) base e (.slice (some ⟨g, 0, none⟩) n cap) (xs.set i u) := by
  obtain ⟨hl, h⟩ := h
  rcases h with ⟨h, _⟩ | ⟨g', cap', cur, hv, hb, hg, hn, hm, hs, ht⟩
  · cases h
  · cases hv
    refine ⟨by simp, .inr ⟨g, cap, cur.setIfInBounds i u, by simp, hb, blk_setCell hg i u, by simpa using hn, hm, by simpa using hs, ?_⟩⟩
    rw [Array.toList_setIfInBounds, List.take_set, List.length_set, ht]

theorem Own.cellAt {w : World} {base : Nat} {e : TypeId} {g n cap : Nat} {xs : List Value} (h : Own w base e (.slice (some ⟨g, 0, none⟩) n cap) xs) {i : Nat} (hi : i < xs.length) : w.cell? ⟨g, i, none⟩ = some (xs.getD i undef) := by
  rcases h.form with ⟨h1, _⟩ | ⟨g', cap', h1, _, _, _, _, _, hc, _⟩
  · cases h1
  · cases h1; exact hc i hi

theorem Own.frozenAt {w : World} {base : Nat} {e : TypeId} {g n cap : Nat} {xs : List Value} (h : Own w base e (.slice (some ⟨g, 0, none⟩) n cap) xs) (i : Nat) : w.frozen? ⟨g, i, none⟩ = false := by
  rcases h.form with ⟨h1, _⟩ | ⟨g', cap', h1, _, _, _, _, _, _, hf⟩
  · cases h1
  · cases h1; exact hf i

/-! ### Bytes -/
def bv (bs : List (BitVec 8)) : List Value := bs.map fun c => Value.int .u8 (U c)

theorem bv_length (bs : List (BitVec 8)) : (bv bs).length = bs.length := by simp [bv]
theorem bv_append (xs ys : List (BitVec 8)) : bv (xs ++ ys) = bv xs ++ bv ys := by simp [bv]
theorem bv_one (bs : List (BitVec 8)) : ∀ u ∈ bv bs, u.oneCell' = true := by
  intro u hu
  obtain ⟨c, _, rfl⟩ := List.mem_map.1 hu
  rfl
theorem bv_getD (bs : List (BitVec 8)) {i : Nat} (hi : i < bs.length) : (bv bs).getD i undef = .int .u8 (U (bs.getD i 0)) := by
  simp [bv, List.getD_eq_getElem?_getD, List.getElem?_eq_getElem hi]

/-- The slice reads as the bytes bs. -/
def RdB (w : World) (a : Option Addr) (bs : List (BitVec 8)) : Prop := Rd w a bs.length fun i => .int .u8 (U (bs.getD i 0))

theorem RdB.rd {w : World} {a : Option Addr} {bs : List (BitVec 8)} (h : RdB w a bs) : Rd w a (bv bs).length (fun i => (bv bs).getD i undef) := by
  rw [bv_length]
  exact Rd.congr h fun i hi => (bv_getD bs hi).symm

theorem RdB.of_rd {w : World} {a : Option Addr} {bs : List (BitVec 8)} (h : Rd w a (bv bs).length (fun i => (bv bs).getD i undef)) : RdB w a bs := by
  rw [bv_length] at h
  exact Rd.congr h fun i hi => bv_getD bs hi

theorem rdB_of {w : World} {a : Option Addr} {n : Nat} {c : Nat → BitVec 8} (h : Rd w a n fun i => .int .u8 (U (c i))) : RdB w a ((List.range n).map c) := by
  unfold RdB
  rw [List.length_map, List.length_range]
  refine h.congr fun i hi => ?_
  simp [List.getD_eq_getElem?_getD, List.getElem?_range hi]

theorem Own.bytes {w : World} {base : Nat} {e : TypeId} {a : Option Addr} {n cap : Nat} {bs : List (BitVec 8)} (h : Own w base e (.slice a n cap) (bv bs)) : n = bs.length ∧ RdB w a bs := by
  obtain ⟨h1, h2⟩ := h.rd
  rw [bv_length] at h1
  subst h1
  exact ⟨rfl, h2.congr fun i hi => bv_getD bs hi⟩

theorem Own.storeB {w : World} {base : Nat} {e : TypeId} {g n cap : Nat} {l : List (BitVec 8)} (h : Own w base e (.slice (some ⟨g, 0, none⟩) n cap) (bv l)) (i : Nat) (hi : i < l.length) (x : BitVec 8) :
    Own (w.setCell ⟨g, i, none⟩ (.int .u8 (U x))) base e (.slice (some ⟨g, 0, none⟩) n cap) (bv (l.set i x)) := by
  have := h.store i (by rw [bv_length]; exact hi) (.int .u8 (U x))
  rwa [show (bv l).set i (.int .u8 (U x)) = bv (l.set i x) from by simp [bv, List.map_set]] at this

theorem plus8 (x : BitVec 8) : (U x + 1) % (256 : Int) = U (x + 1) := by
  unfold U; rw [BitVec.toNat_add]; simp

/-- What a call hands back is a slice of its own with the bytes bs; nothing that was there has turned. -/
def GivesB (w : World) (e : TypeId) (bs : List (BitVec 8)) (P : Value → Prop) (r : Ending) (w' : World) : Prop :=
  ∃ v, r = .returned v ∧ Own w' w.heap.size e v (bv bs) ∧ Kp no w w' ∧ P v

/-! ### Bytes as a string -/
def strB (bs : List (BitVec 8)) : ByteArray := ⟨(bs.map UInt8.ofBitVec).toArray⟩

theorem strB_inj {xs ys : List (BitVec 8)} (h : strB xs = strB ys) : xs = ys := by
  have h1 : (xs.map UInt8.ofBitVec).toArray = (ys.map UInt8.ofBitVec).toArray := congrArg ByteArray.data h
  have h2 := List.toArray_inj h1
  have h3 := congrArg (List.map UInt8.toBitVec) h2
  have e : ∀ l : List (BitVec 8), (l.map UInt8.ofBitVec).map UInt8.toBitVec = l := fun l => by
    rw [List.map_map]
    exact List.map_id'' (fun x => rfl) l
  rwa [e, e] at h3

theorem strB_append (xs ys : List (BitVec 8)) : strB (xs ++ ys) = strB xs ++ strB ys := by
  apply ByteArray.ext
  simp [strB]

theorem strB_fold (bs : List (BitVec 8)) (s : ByteArray) : (bs.map U).foldl (fun r n => r.push (UInt8.ofNat n.toNat)) s = s ++ strB bs := by
  induction bs generalizing s with
  | nil => apply ByteArray.ext; simp [strB]
  | cons c r ih =>
    rw [List.map_cons, List.foldl_cons, ih]
    apply ByteArray.ext
    have : UInt8.ofNat (U c).toNat = UInt8.ofBitVec c := by
      unfold U; rw [Int.toNat_natCast]; apply UInt8.toBitVec_inj.1; simp
    simp [strB, this]

theorem run_str {P : Program} {w : World} {t s e : TypeId} (ht : P.underlying t = some (.slice e)) (he : P.underlying e = some (.int .u8)) (hs : P.underlying s = some .string)
    {a : Option Addr} {n c : Nat} {bs : List (BitVec 8)} (hl : bs.length = n) (h : RdB w a bs) :
    (convert t s (.slice a n c)).run P w = .ok (.string (strB bs)) w := by
  subst hl
  rw [run_convert_bytes_string w t s e a _ c ht he hs]
  cases a with
  | none =>
    have h0 : bs = [] := by
      cases bs with
      | nil => rfl
      | cons y r => obtain ⟨b, o, ha, _⟩ := h 0 (by simp); cases ha
    subst h0
    simp [Conv.bytesToString, strB, Sem.run_pure]
    rfl
  | some x =>
    have hc := run_loadCells_list (P := P) w x (bv bs) (rd_cells h.rd rfl)
    rw [bv_length] at hc
    have e : (bv bs).toArray = ((bs.map U).map (Value.int .u8)).toArray := by simp [bv]
    rw [e] at hc
    rw [run_bytesToString w x bs.length c (bs.map U) hc, strB_fold]
    congr 2

end Go.Proofs.YtilpkfgdlehmpaaDoor.Crc
