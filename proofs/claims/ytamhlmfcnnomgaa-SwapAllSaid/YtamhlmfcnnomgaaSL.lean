/- Memory as a list of pieces, apart from each other: 'SL w L'. A step that turns one piece leaves the others. Nothing here names the program. -/
import Derived.Test.YtamhlmfcnnomgaaOwnK
import Derived.Maps.AppendAt
namespace Go.Proofs.Ytamhlmfcnnomgaa
open Go.RowKit
set_option linter.unusedVariables false

/-- A piece of another kind: what it says of a world, and the blocks on which that hangs. -/
structure Gp where
  foot : Nat → Prop
  says : World → Prop
  stays : ∀ w w', says w → w'.os = w.os → w'.tape = w.tape → w'.output = w.output → w.heap.size ≤ w'.heap.size → (∀ b, foot b → w'.heap[b]? = w.heap[b]?) → says w'
  inn : ∀ w, says w → ∀ b, foot b → b < w.heap.size

inductive Pc where
  | blk (b : Nat) (cs : List Value) (t : TypeId)
  | own (e : TypeId) (k : Nat) (v : Value) (n : Nat) (xs : List Value)
  | old (W : World) (S : Nat → Prop)
  | obj (b : Nat) (o : Obj)
  | gen (g : Gp)

def Pc.foot : Pc → Nat → Prop
  | .blk b _ _, x => x = b
  | .own _ _ v _ _, x => v.ownBlock = some x
  | .old W S, x => x < W.heap.size ∧ ¬ S x
  | .obj b _, x => x = b
  | .gen g, x => g.foot x

def Pc.says : Pc → World → Prop
  | .blk b cs t, w => w.heap[b]? = some (.cells cs.toArray t)
  | .own e k v n xs, w => OwnK w 0 e k v n xs
  | .old W S, w => Kp S W w
  | .obj b o, w => w.heap[b]? = some o
  | .gen g, w => g.says w

/-- Each block of the foot lies as it lay. -/
structure Tr (F : Nat → Prop) (w w' : World) : Prop where
  os : w'.os = w.os
  tape : w'.tape = w.tape
  output : w'.output = w.output
  size : w.heap.size ≤ w'.heap.size
  block : ∀ k, F k → k < w.heap.size → w'.heap[k]? = w.heap[k]?

theorem Tr.of_kp {S F : Nat → Prop} {w w' : World} (h : Kp S w w') (hd : ∀ b, b < w.heap.size → F b → ¬ S b) : Tr F w w' :=
  ⟨h.os, h.tape, h.output, h.size, fun k hk hl => h.block k hl (hd k hl hk)⟩

theorem Pc.inn {p : Pc} {w : World} (h : p.says w) {b : Nat} (hb : p.foot b) : b < w.heap.size := by
  cases p with
  | blk b' cs t => obtain rfl : b = b' := hb; exact blk_lt h
  | own e k v n xs => exact (OwnK.block (show OwnK w 0 e k v n xs from h) hb).2
  | old W S => exact Nat.lt_of_lt_of_le hb.1 (show Kp S W w from h).size
  | obj b' o => obtain rfl : b = b' := hb; exact blk_lt h
  | gen g => exact g.inn w h b hb

theorem Pc.stays {p : Pc} {w w' : World} (h : p.says w) (hk : Tr p.foot w w') : p.says w' := by
  have hb : ∀ b, p.foot b → w'.heap[b]? = w.heap[b]? := fun b hb => hk.block b hb (Pc.inn h hb)
  cases p with
  | blk b cs t => exact (hb b rfl).trans h
  | own e k v n xs =>
    have h : OwnK w 0 e k v n xs := h
    refine ⟨h.1, ?_⟩
    rcases h.2 with hn | ⟨g, cap, cur, rfl, hbg, hg, rest⟩
    · exact .inl hn
    · exact .inr ⟨g, cap, cur, rfl, hbg, (hb g rfl).trans hg, rest⟩
  | old W S =>
    have h : Kp S W w := h
    exact ⟨hk.os.trans h.os, hk.tape.trans h.tape, hk.output.trans h.output, Nat.le_trans h.size hk.size, fun k hk' hn => (hb k ⟨hk', hn⟩).trans (h.block k hk' hn)⟩
  | obj b o => exact (hb b rfl).trans h
  | gen g => exact g.stays w w' h hk.os hk.tape hk.output hk.size hb

/-- The pieces hold, apart from each other. -/
structure SL (w : World) (L : List Pc) : Prop where
  all : ∀ p ∈ L, p.says w
  apart : L.Pairwise fun p q => ∀ b, p.foot b → ¬ q.foot b

theorem SL.nil (w : World) : SL w [] := ⟨by simp, List.Pairwise.nil⟩

theorem SL.head {w : World} {p : Pc} {L : List Pc} (h : SL w (p :: L)) : p.says w := h.all p (by simp)
theorem SL.tail {w : World} {p : Pc} {L : List Pc} (h : SL w (p :: L)) : SL w L := ⟨fun q hq => h.all q (by simp [hq]), (List.pairwise_cons.1 h.apart).2⟩

theorem SL.perm {w : World} {L L' : List Pc} (h : SL w L) (hp : L.Perm L') : SL w L' :=
  ⟨fun q hq => h.all q (hp.mem_iff.2 hq), hp.pairwise h.apart (fun {a b} hab x hb ha => hab x ha hb)⟩

/-- A piece taken to the front. -/
inductive Pull : List Pc → Pc → List Pc → Prop
  | here (p : Pc) (L : List Pc) : Pull (p :: L) p L
  | there {p q : Pc} {L L' : List Pc} (h : Pull L p L') : Pull (q :: L) p (q :: L')

theorem Pull.perm {L L' : List Pc} {p : Pc} (h : Pull L p L') : L.Perm (p :: L') := by
  induction h with
  | here p L => exact .refl _
  | there h ih => exact (ih.cons _).trans (.swap _ _ _)

theorem Pull.mem {L L' : List Pc} {p : Pc} (h : Pull L p L') : p ∈ L := h.perm.mem_iff.2 (by simp)

theorem SL.pull {w : World} {L L' : List Pc} {p : Pc} (h : SL w L) (hp : Pull L p L') : SL w (p :: L') := h.perm hp.perm

/-- Pieces put in another order, some let go. -/
inductive Re : List Pc → List Pc → Prop
  | same (L : List Pc) : Re L L
  | done (L : List Pc) : Re L []
  | step {L L1 L' : List Pc} {p : Pc} (h : Pull L p L1) (r : Re L1 L') : Re L (p :: L')
  | drop {L L' : List Pc} {p : Pc} (r : Re L L') : Re (p :: L) L'

theorem Re.mem {A B : List Pc} (r : Re A B) : ∀ x ∈ B, x ∈ A := by
  induction r with
  | same L => exact fun x hx => hx
  | done L => exact fun x hx => by cases hx
  | step hp r ih =>
    intro x hx
    rw [hp.perm.mem_iff]
    rcases List.mem_cons.1 hx with rfl | hx
    · simp
    · exact List.mem_cons_of_mem _ (ih x hx)
  | drop r ih => exact fun x hx => List.mem_cons_of_mem _ (ih x hx)

theorem SL.re {w : World} {L L' : List Pc} (h : SL w L) (r : Re L L') : SL w L' := by
  induction r with
  | same L => exact h
  | done L => exact SL.nil w
  | @step L L1 L' p hp r ih =>
    have h1 := h.pull hp
    have h2 := ih h1.tail
    refine ⟨fun q hq => ?_, List.pairwise_cons.2 ⟨fun q hq => ?_, h2.apart⟩⟩
    · rcases List.mem_cons.1 hq with rfl | hq
      · exact h1.head
      · exact h2.all q hq
    · exact (List.pairwise_cons.1 h1.apart).1 q (r.mem q hq)
  | drop r ih => exact ih h.tail

/-- All pieces stay where nothing of theirs is turned. -/
theorem SL.kept {w w' : World} {L : List Pc} (h : SL w L) (hk : ∀ p ∈ L, Tr p.foot w w') : SL w' L :=
  ⟨fun p hp => Pc.stays (h.all p hp) (hk p hp), h.apart⟩

theorem SL.quiet {w w' : World} {L : List Pc} (h : SL w L) (hk : Kp no w w') : SL w' L := h.kept fun p _ => Tr.of_kp hk fun _ _ _ h => h

theorem SL.drew {w : World} {L : List Pc} (h : SL w L) : SL w.drew L := h.quiet (Kp.refl no w).drew
theorem SL.drewN {w : World} {L : List Pc} (h : SL w L) (n : Nat) : SL (w.drewN n) L := h.quiet ((Kp.refl no w).drewN n)

theorem SL.out {w : World} {p : Pc} {L : List Pc} (h : SL w (p :: L)) {b : Nat} (hb : p.foot b) : ∀ q ∈ L, ¬ q.foot b := fun q hq => (List.pairwise_cons.1 h.apart).1 q hq b hb

/-- The first piece is turned into others; new blocks, too. -/
theorem SL.upds {w w' : World} {p : Pc} {L Lq : List Pc} (h : SL w (p :: L)) (hk : Kp p.foot w w') (hq : SL w' Lq) (hf : ∀ q ∈ Lq, ∀ b, q.foot b → p.foot b ∨ w.heap.size ≤ b) : SL w' (Lq ++ L) := by
  have hL : SL w' L := h.tail.kept fun q hq => Tr.of_kp hk fun b _ hb hS => h.out hS q hq hb
  refine ⟨fun q hq' => ?_, List.pairwise_append.2 ⟨hq.apart, hL.apart, fun q hq' r hr b hqb hrb => ?_⟩⟩
  · rcases List.mem_append.1 hq' with h1 | h1
    · exact hq.all q h1
    · exact hL.all q h1
  · rcases hf q hq' b hqb with h1 | h1
    · exact h.out h1 r hr hrb
    · have := Pc.inn (h.tail.all r hr) hrb
      omega

theorem SL.upd {w w' : World} {p q : Pc} {L : List Pc} (h : SL w (p :: L)) (hk : Kp p.foot w w') (hq : q.says w') (hf : ∀ b, q.foot b → p.foot b ∨ w.heap.size ≤ b) : SL w' (q :: L) :=
  h.upds (Lq := [q]) hk ⟨by simpa using hq, by simp⟩ (by simpa using hf)

/-- Nothing is turned; new pieces. -/
theorem SL.news {w w' : World} {L Lq : List Pc} (h : SL w L) (hk : Kp no w w') (hq : SL w' Lq) (hf : ∀ q ∈ Lq, ∀ b, q.foot b → w.heap.size ≤ b) : SL w' (Lq ++ L) := by
  have hL := h.quiet hk
  refine ⟨fun q hq' => ?_, List.pairwise_append.2 ⟨hq.apart, hL.apart, fun q hq' r hr b hqb hrb => ?_⟩⟩
  · rcases List.mem_append.1 hq' with h1 | h1
    · exact hq.all q h1
    · exact hL.all q h1
  · have h1 := hf q hq' b hqb
    have := Pc.inn (h.all r hr) hrb
    omega

theorem SL.new {w w' : World} {q : Pc} {L : List Pc} (h : SL w L) (hk : Kp no w w') (hq : q.says w') (hf : ∀ b, q.foot b → w.heap.size ≤ b) : SL w' (q :: L) :=
  h.news (Lq := [q]) hk ⟨by simpa using hq, by simp⟩ (by simpa using hf)

/-- A piece that holds nothing of its own (a nil slice, say). -/
theorem SL.pure {w : World} {q : Pc} {L : List Pc} (h : SL w L) (hq : q.says w) (hf : ∀ b, ¬ q.foot b) : SL w (q :: L) := h.new (Kp.refl no w) hq fun b hb => (hf b hb).elim

theorem SL.alloc {w : World} {L : List Pc} (h : SL w L) (cs : List Value) (t : TypeId) : SL (w.alloc (.cells cs.toArray t)) (.blk w.heap.size cs t :: L) :=
  h.new ((Kp.refl no w).alloc _) (blk_new w _) fun b hb => Nat.le_of_eq hb.symm

theorem SL.allocO {w : World} {L : List Pc} (h : SL w L) (o : Obj) : SL (w.alloc o) (.obj w.heap.size o :: L) :=
  h.new ((Kp.refl no w).alloc _) (blk_new w _) fun b hb => Nat.le_of_eq hb.symm

theorem SL.setCell {w : World} {L : List Pc} {b : Nat} {cs : List Value} {t : TypeId} (h : SL w (.blk b cs t :: L)) (o : Nat) (u : Value) : SL (w.setCell ⟨b, o, none⟩ u) (.blk b (cs.set o u) t :: L) :=
  h.upd (Kp.setCell (S := (Pc.blk b cs t).foot) (Kp.refl _ w) (p := ⟨b, o, none⟩) (.inl (show b = b from rfl)) u) (by
    show (w.setCell ⟨b, o, none⟩ u).heap[b]? = _
    rw [blk_setCell (show w.heap[b]? = some (.cells cs.toArray t) from h.head) o u]; simp) fun x hx => .inl hx

theorem SL.cell {w : World} {L L' : List Pc} {b : Nat} {cs : List Value} {t : TypeId} (h : SL w L) (hp : Pull L (.blk b cs t) L') {o : Nat} {v : Value} (hv : cs[o]? = some v) : w.cell? ⟨b, o, none⟩ = some v :=
  blk_cell (show w.heap[b]? = some (.cells cs.toArray t) from h.all _ hp.mem) o v (by simpa using hv)
theorem SL.free {w : World} {L L' : List Pc} {b : Nat} {cs : List Value} {t : TypeId} (h : SL w L) (hp : Pull L (.blk b cs t) L') (o : Nat) : w.frozen? ⟨b, o, none⟩ = false :=
  blk_frozen (show w.heap[b]? = some (.cells cs.toArray t) from h.all _ hp.mem) o

theorem SL.ne {w : World} {L L' L2 : List Pc} {b b' : Nat} {cs cs' : List Value} {t t' : TypeId} (h : SL w L) (hp : Pull L (.blk b cs t) L') (hp' : Pull L' (.blk b' cs' t') L2) : ¬ b = b' ∧ ¬ b' = b := by
  have h1 := h.pull hp
  have : ¬ b = b' := fun e => (List.pairwise_cons.1 h1.apart).1 _ hp'.mem b rfl e
  exact ⟨this, fun e => this e.symm⟩

theorem SL.ownOf {w : World} {L L' : List Pc} {e : TypeId} {k : Nat} {v : Value} {n : Nat} {xs : List Value} (h : SL w L) (hp : Pull L (.own e k v n xs) L') : OwnK w 0 e k v n xs := h.all _ hp.mem

/-! ### The beginning, and the end -/
theorem SL.start (w : World) : SL w [.old w no] := ⟨by simp only [List.mem_singleton, forall_eq]; exact Kp.refl no w, by simp⟩
theorem SL.kp {w W : World} {S : Nat → Prop} {L L' : List Pc} (h : SL w L) (hp : Pull L (.old W S) L') : Kp S W w := h.all _ hp.mem

/-! ### The cells that are known, for the walk -/
def cellsFrom (w : World) (b : Nat) : Nat → List Value → Prop
  | _, [] => True
  | i, v :: r => w.cell? ⟨b, i, none⟩ = some v ∧ w.frozen? ⟨b, i, none⟩ = false ∧ cellsFrom w b (i + 1) r
def Pc.cells (w : World) : Pc → Prop
  | .blk b cs _ => cellsFrom w b 0 cs
  | _ => True
def cellsOf (w : World) : List Pc → Prop
  | [] => True
  | p :: L => p.cells w ∧ cellsOf w L
theorem cellsFrom_of {w : World} {b : Nat} {t : TypeId} : ∀ (cs : List Value) (i : Nat) (all : List Value), w.heap[b]? = some (.cells all.toArray t) → (∀ j, j < cs.length → all[i + j]? = cs[j]?) → cellsFrom w b i cs
  | [], _, _, _, _ => trivial
  | v :: r, i, all, h, ha => ⟨blk_cell h i v (by have := ha 0 (by simp); simpa using this), blk_frozen h i, cellsFrom_of r (i + 1) all h fun j hj => by
      have := ha (j + 1) (by simpa using hj)
      rw [show i + 1 + j = i + (j + 1) by omega, this]
      simp⟩
theorem SL.cells {w : World} : ∀ {L : List Pc}, SL w L → cellsOf w L
  | [], _ => trivial
  | p :: L, h => ⟨by
      cases p with
      | blk b cs t => exact cellsFrom_of cs 0 cs (show w.heap[b]? = some (.cells cs.toArray t) from h.head) (by simp)
      | _ => trivial, h.tail.cells⟩

/-! ### Steps of the walk that make the world a variable again -/
theorem abs_alloc {w : World} {L : List Pc} (H : SL w L) {G : World → Prop} {cs : List Value} {t : TypeId} (k : ∀ w', SL w' (.blk w.heap.size cs t :: L) → G w') : G (w.alloc (.cells cs.toArray t)) := k _ (H.alloc cs t)
theorem abs_set {w : World} {L L' : List Pc} (H : SL w L) {G : World → Prop} {b o : Nat} {cs : List Value} {t : TypeId} {u : Value} (hp : Pull L (.blk b cs t) L') (k : ∀ w', SL w' (.blk b (cs.set o u) t :: L') → G w') : G (w.setCell ⟨b, o, none⟩ u) := k _ ((H.pull hp).setCell o u)
theorem abs_drew {w : World} {L : List Pc} (H : SL w L) {G : World → Prop} (k : ∀ w', SL w' L → G w') : G w.drew := k _ H.drew
theorem abs_drewN {w : World} {L : List Pc} (H : SL w L) {G : World → Prop} {n : Nat} (k : ∀ w', SL w' L → G w') : G (w.drewN n) := k _ (H.drewN n)

/-! ### append -/
theorem SL.appended {P : Program} {w : World} {L : List Pc} {t ty e : TypeId} {k : Nat} {z : Value} {bytes : Nat} (E : ElemK P t e k z bytes) {v : Value} {n : Nat} {xs : List Value}
    (H : SL w (.own e k v n xs :: L)) {a : Option Addr} {m c : Nat} {ys : List Value} (hl : ys.length = m * k) (hy : Rd w a ys.length (fun i => ys.getD i undef)) (h1 : ∀ u ∈ ys, u.oneCell' = true)
    (h63 : n + m ≤ maxLen) (hbytes : (n + m) * bytes ≤ 140737488355328) (hnil : a = none → c = 0) :
    ∃ v' w', (Builtin.append_ #[t, t] ty #[v, .slice a m c]).run P w = .ok v' w' ∧ SL w' (.own e k v' (n + m) (xs ++ ys) :: L) ∧ (v' = .slice none 0 0 ↔ v = .slice none 0 0 ∧ m = 0) := by
  obtain ⟨i, hi, hz, hsz, hby⟩ := info_parts E.info
  have h : OwnK w 0 e k v n xs := H.head
  cases a with
  | none =>
    obtain ⟨v', w', hr, h2, h3, h4⟩ := run_appK (P := P) (ty := ty) E h (Nat.zero_le _) hl hy h1 h63 hbytes hnil
    have h0 : ys = [] := by
      cases ys with
      | nil => rfl
      | cons y r => obtain ⟨b, o, ha, _⟩ := hy 0 (by simp); cases ha
    subst h0
    obtain rfl := hnil rfl
    have hm : m = 0 := by
      rcases Nat.mul_eq_zero.1 hl.symm with h | h
      · exact h
      · have := E.pos; omega
    subst hm
    refine ⟨v, w, run_append_owned_none (P := P) (w := w) 0 t ty e i k E.under hi v n xs h, ?_, by simp⟩
    rw [List.append_nil]; exact H
  | some x =>
    obtain ⟨v', w', hr, ho, hg, hn, h5⟩ := run_append_own_at (P := P) w 0 t ty e i z k bytes E.under hi hz hsz hby E.cells E.pos v n xs h x m c ys hl (rd_cellsK hy rfl) h1 h63 hbytes (Nat.zero_le _)
    refine ⟨v', w', hr, ?_, hn⟩
    refine H.upd (q := .own e k v' (n + m) (xs ++ ys)) ((Kp.of_grownK hg).mono fun _ _ h => h) ho fun b hb => ?_
    have hb : v'.ownBlock = some b := hb
    rcases h5 with h5 | h5
    · left; show v.ownBlock = some b; rw [← h5]; exact hb
    · right; rw [h5] at hb; have := Option.some.inj hb; omega

/-- append(v, y...) as a step of the walk. -/
theorem sl_app {P : Program} {w : World} {L L' : List Pc} {ops : Array Oper} {rest : List Oper} {o : Oper} {ac : Act} {Q : Exit → Act → World → Prop} (H : SL w L) (hgd : o.guard = none) (s x : Operand) (t : TypeId)
    (ho : o.op = .call { callee := .builtin .append, args := #[s, x], argTypes := #[t, t] })
    {e : TypeId} {k : Nat} {z : Value} {bytes : Nat} (E : ElemK P t e k z bytes) (v : Value) {n : Nat} {xs : List Value} (hs : ac.eval s = v) (hp : Pull L (.own e k v n xs) L')
    {a : Option Addr} {m c : Nat} (ys : List Value) (hx : ac.eval x = .slice a m c) (hl : ys.length = m * k) (hy : Rd w a ys.length (fun i => ys.getD i undef)) (h1 : ∀ u ∈ ys, u.oneCell' = true)
    (h63 : n + m ≤ maxLen) (hbytes : (n + m) * bytes ≤ 140737488355328) (hnil : a = none → c = 0)
    (kk : ∀ v' w', SL w' (.own e k v' (n + m) (xs ++ ys) :: L') → (v' = .slice none 0 0 ↔ v = .slice none 0 0 ∧ m = 0) → wpList P ops Q rest (ac.put o.dst v') w') :
    wpList P ops Q (o :: rest) ac w := by
  obtain ⟨v', w', hr, h2, h4⟩ := SL.appended (P := P) (ty := o.type) E (H.pull hp) hl hy h1 h63 hbytes hnil
  refine wpList_plain hgd fun K hK => ?_
  unfold Oper.wp execOp
  simp only [ho, resolve, invoke, builtin, Sem.run_bind, Sem.run_pure, Result.andThen_ok, List.map_toArray, List.map_cons, List.map_nil, hs, hx, hr]
  exact hK _ _ (kk v' w' h2 h4)

theorem sl_appIn {F : Fence} {N : Nat} {P : Program} {w : World} {L L' : List Pc} {ops : Array Oper} {rest : List Oper} {o : Oper} {ac : Act} {Q : Exit → Act → World → Prop} (H : SL w L) (hgd : o.guard = none) (s x : Operand) (t : TypeId)
    (ho : o.op = .call { callee := .builtin .append, args := #[s, x], argTypes := #[t, t] })
    {e : TypeId} {k : Nat} {z : Value} {bytes : Nat} (E : ElemK P t e k z bytes) (v : Value) {n : Nat} {xs : List Value} (hs : ac.eval s = v) (hp : Pull L (.own e k v n xs) L')
    {a : Option Addr} {m c : Nat} (ys : List Value) (hx : ac.eval x = .slice a m c) (hl : ys.length = m * k) (hy : Rd w a ys.length (fun i => ys.getD i undef)) (h1 : ∀ u ∈ ys, u.oneCell' = true)
    (h63 : n + m ≤ maxLen) (hbytes : (n + m) * bytes ≤ 140737488355328) (hnil : a = none → c = 0)
    (kk : ∀ v' w', SL w' (.own e k v' (n + m) (xs ++ ys) :: L') → (v' = .slice none 0 0 ↔ v = .slice none 0 0 ∧ m = 0) → wpListIn F N P ops Q rest (ac.put o.dst v') w') :
    wpListIn F N P ops Q (o :: rest) ac w := by
  obtain ⟨v', w', hr, h2, h4⟩ := SL.appended (P := P) (ty := o.type) E (H.pull hp) hl hy h1 h63 hbytes hnil
  refine wpListIn_plain hgd fun K hK' => ?_
  unfold Oper.wpIn
  refine ⟨?_, ?_⟩
  · simp [Oper.about, ho, resolve, Target.leads, Sem.run_pure]
  · rw [Oper.semAt_plain F _ _ (by rw [ho]; intro c hc'; cases hc')]
    simp [execOp, ho, resolve, invoke, builtin, hs, hx, hr, Result.andThen]
    exact hK' _ _ (kk v' w' h2 h4)

end Go.Proofs.Ytamhlmfcnnomgaa
