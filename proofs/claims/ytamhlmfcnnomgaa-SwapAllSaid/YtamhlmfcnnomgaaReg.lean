/- A region that draws its order, walked operation by operation over pieces of memory: laws for the operations that turn memory. Nothing here names the program. -/
import Derived.Test.YtamhlmfcnnomgaaSL
import Derived.RegionTactic
import Derived.OwnWalk
namespace Go.Proofs.Ytamhlmfcnnomgaa
open Go.RowKit
set_option linter.unusedVariables false

theorem takeW {P : Program} {md : Region.Mode} {l : List Oper} {Q : Exit → Act → World → Prop} {i : Nat} {oi : Oper} {fuel : Nat} {listed : Array Bool} {a : Act} {w : World} (hi : l[i]? = some oi)
    (hs : Region.noSelect l.toArray = true) (hf : Region.free md l.toArray listed i = true) (hr : (Region.ready md l.toArray listed).contains i = true)
    (hQ : ∀ c a w v, Q (.panic c) (a.put oi.dst v) w → Q (.panic c) a w) (v : Value)
    (hy : Yields P l.toArray oi v a) (h : wpAny P md l.toArray Q fuel (listed.setIfInBounds i true) (a.put oi.dst v) w) : wpAny P md l.toArray Q (fuel + 1) listed a w :=
  wpAny_take (by simpa using hi) hs hf hr (fun c a w => hQ c a w v) hy h

theorem wpo_val {P : Program} {o : Oper} {a : Act} {w w' : World} {K : Act → World → Prop} {Q : Exit → Act → World → Prop} {v : Value} (hr : (execOp a.eval o).run P w = .ok (.value v) w') (h : K (a.put o.dst v) w') : o.wp P a w K Q := by
  unfold Oper.wp; rw [hr]; exact h

/-- make([]T, n) -/
theorem SL.made {P : Program} {w : World} {L : List Pc} (H : SL w L) {t e : TypeId} {k : Nat} {z : Value} {bytes : Nat} (E : ElemK P t e k z bytes) (kl kc : IntKind) (n : Nat) (hb : bytes * n ≤ 281474976710656) (h63 : n ≤ maxLen) :
    ∃ w', (Instr.makeSlice t (.int kl (n : Int)) (.int kc (n : Int))).run P w = .ok (.slice (some ⟨w.heap.size, 0, none⟩) n n) w' ∧
      SL w' (.own e k (.slice (some ⟨w.heap.size, 0, none⟩) n n) n (madeCells z.cells (n * k)).toList :: L) := by
  obtain ⟨i, hi, hz, hsz, hby⟩ := info_parts E.info
  obtain ⟨w', hr, ho, hg⟩ := run_make_full (P := P) w 0 t e i z k E.under hi hz hsz kl kc n (by rw [hby]; exact hb) h63 (Nat.zero_le _)
  exact ⟨w', hr, H.new (q := .own e k (.slice (some ⟨w.heap.size, 0, none⟩) n n) n (madeCells z.cells (n * k)).toList) ((Kp.of_grownK hg).mono fun _ _ h => by cases h) ho fun b hb => Nat.le_of_eq (Option.some.inj hb)⟩

theorem made_one (z : Value) (n : Nat) (h : z.cells = #[z]) : (madeCells z.cells (n * 1)).toList = List.replicate n z := by
  rw [h, Nat.mul_one]
  unfold madeCells
  apply List.ext_getElem
  · simp
  · intro i h1 h2
    simp [Nat.mod_one]

theorem wpo_make {P : Program} {o : Oper} {a : Act} {w : World} {K : Act → World → Prop} {Q : Exit → Act → World → Prop} {L : List Pc} (H : SL w L) (l c : Operand) (t : TypeId) (ho : o.op = .makeSlice t l c) {e : TypeId} {k : Nat} {z : Value} {bytes : Nat} (E : ElemK P t e k z bytes)
    (kl kc : IntKind) (n : Nat) (hl : a.eval l = .int kl n) (hc : a.eval c = .int kc n) (hb : bytes * n ≤ 281474976710656) (h63 : n ≤ maxLen)
    (kk : ∀ b w', SL w' (.own e k (.slice (some ⟨b, 0, none⟩) n n) n (madeCells z.cells (n * k)).toList :: L) → K (a.put o.dst (.slice (some ⟨b, 0, none⟩) n n)) w') : o.wp P a w K Q := by
  obtain ⟨w', hr, h⟩ := H.made E kl kc n hb h63
  refine wpo_val (v := .slice (some ⟨w.heap.size, 0, none⟩) n n) (w' := w') ?_ (kk _ _ h)
  unfold execOp
  simp only [ho, hl, hc, Sem.run_bind, hr, Result.andThen_ok, Sem.run_pure]

theorem wpo_app {P : Program} {o : Oper} {ac : Act} {w : World} {K : Act → World → Prop} {Q : Exit → Act → World → Prop} {L L' : List Pc} (H : SL w L) (s x : Operand) (t : TypeId)
    (ho : o.op = .call { callee := .builtin .append, args := #[s, x], argTypes := #[t, t] })
    {e : TypeId} {k : Nat} {z : Value} {bytes : Nat} (E : ElemK P t e k z bytes) (v : Value) {n : Nat} {xs : List Value} (hs : ac.eval s = v) (hp : Pull L (.own e k v n xs) L')
    {a : Option Addr} {m c : Nat} (ys : List Value) (hx : ac.eval x = .slice a m c) (hl : ys.length = m * k) (hy : Rd w a ys.length (fun i => ys.getD i undef)) (h1 : ∀ u ∈ ys, u.oneCell' = true)
    (h63 : n + m ≤ maxLen) (hbytes : (n + m) * bytes ≤ 140737488355328) (hnil : a = none → c = 0)
    (kk : ∀ a' c' w', SL w' (.own e k (.slice a' (n + m) c') (n + m) (xs ++ ys) :: L') → K (ac.put o.dst (.slice a' (n + m) c')) w') : o.wp P ac w K Q := by
  obtain ⟨v', w', hr, h2, h4⟩ := SL.appended (P := P) (ty := o.type) E (H.pull hp) hl hy h1 h63 hbytes hnil
  obtain ⟨a', c', rfl, -⟩ := OwnK.slice (show OwnK w' 0 e k v' (n + m) (xs ++ ys) from h2.head)
  refine wpo_val (v := .slice a' (n + m) c') (w' := w') ?_ (kk _ _ _ h2)
  unfold execOp
  simp only [ho, resolve, invoke, builtin, Sem.run_bind, Sem.run_pure, Result.andThen_ok, List.map_toArray, List.map_cons, List.map_nil, hs, hx, hr]

theorem rd_blk {w : World} {b : Nat} {ys : List Value} {t : TypeId} (h : w.heap[b]? = some (.cells ys.toArray t)) : Rd w (some ⟨b, 0, none⟩) ys.length (fun i => ys.getD i undef) := fun i hi =>
  ⟨b, 0, rfl, by
    rw [Nat.zero_add]
    refine blk_cell h i _ ?_
    show ys.toArray[i]? = some (ys.getD i undef)
    rw [List.getElem?_toArray, List.getElem?_eq_getElem hi, List.getD_eq_getElem?_getD, List.getElem?_eq_getElem hi]
    rfl⟩
theorem SL.rdBlk {w : World} {L L' : List Pc} {b : Nat} {ys : List Value} {t : TypeId} (H : SL w L) (hp : Pull L (.blk b ys t) L') : Rd w (some ⟨b, 0, none⟩) ys.length (fun i => ys.getD i undef) := rd_blk (H.all _ hp.mem)

end Go.Proofs.Ytamhlmfcnnomgaa
