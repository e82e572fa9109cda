/- A net of one way whose first datagram is always delivered, beside a queue. -/
import Derived.Test.YtnkahibddhchlaaApartL
import Derived.Test.YtnkahibddhchlaaAlive
import Derived.Test.YtnkahibddhchlaaQueue
namespace Go.Proofs.Ytnkahibddhchlaa
open Go.RowKit Go.Shelf
set_option linter.unusedVariables false

def fW (W : List (List Int)) : Ky → List (List Int) := upd (fun _ => []) (1, 0) W
def sO (R : Nat) (t : Tf) (W : List (List Int)) : NSt := ⟨2, R, t, fW W⟩
def strs (W : List (List Int)) : List Value := W.map fun b => .string (strOfNums b)
def grow (R : Nat) (W : List (List Int)) (b : List Int) : List (List Int) := if W.length < R then W ++ [b] else W
theorem strs_length (W : List (List Int)) : (strs W).length = W.length := by simp [strs]
theorem strs_app (W : List (List Int)) (b : List Int) : strs (W ++ [b]) = strs W ++ [.string (strOfNums b)] := by simp [strs]
theorem fW_at (W : List (List Int)) : fW W (1, 0) = W := upd_self _ _ _
theorem fW_upd (W X : List (List Int)) : upd (fW W) (1, 0) X = fW X := by
  funext k
  unfold fW upd
  split <;> rfl
theorem fW_come (R : Nat) (W : List (List Int)) (b : List Int) : comeF R (fW W) (1, 0) b = fW (grow R W b) := by
  unfold comeF grow
  rw [fW_at]
  split
  · rw [fW_upd]
  · rfl
theorem grow_len (R : Nat) (W : List (List Int)) (b : List Int) (h : W.length ≤ R) : (grow R W b).length ≤ R := by
  unfold grow
  split
  · simp; omega
  · exact h

section
variable {p R : Nat} {t : Tf} {W : List (List Int)} {L : List Pc} {w : World} {B : Int}
theorem Tok.up {t t' : Tf} (h : Tok B t) (h1 : t.sent ≤ t'.sent ∧ t'.sent ≤ t.sent + 1) (h2 : t.doubled ≤ t'.doubled ∧ t'.doubled ≤ t.doubled + 1) (h3 : t.delivered ≤ t'.delivered ∧ t'.delivered ≤ t.delivered + 1)
    (h4 : t.dropped ≤ t'.dropped ∧ t'.dropped ≤ t.dropped + 1) (h5 : t.lost ≤ t'.lost ∧ t'.lost ≤ t.lost + 1) (h6 : t.flipped ≤ t'.flipped ∧ t'.flipped ≤ t.flipped + 1) : Tok (B + 1) t' := by
  obtain ⟨g1, g2, g3, g4, g5, g6⟩ := h
  constructor <;> omega
theorem ord_some {b : List Int} (H : NAt p (sO R t (b :: W)) L w) (ht : Tok B t) (hB : B ≤ 1000000000) :
    Calls Try.prog 14 #[ptrV p, .int .i64 1, .int .i64 0, .int .i64 0] w fun e w' => ∃ v t', e = .returned (.tuple #[slV v, .int .i64 0]) ∧ NAt p (sO R t' W) (grP ⟨v, b⟩ :: L) w' ∧ Tok (B + 1) t' := by
  refine (deliver_yes H (ht.mono hB) okI_1 okI_0 (j := 0) (by simp [NSt.has, sO, fW_at])).mono ?_
  rintro e w' ⟨v, rfl, h⟩
  refine ⟨v, { t with delivered := t.delivered + 1 }, rfl, ?_, ht.up (by dsimp only; omega) (by dsimp only; omega) (by dsimp only; omega) (by dsimp only; omega) (by dsimp only; omega) (by dsimp only; omega)⟩
  unfold NSt.gone NSt.the sO at h
  dsimp only at h
  rw [fW_at, fW_upd] at h
  exact h
theorem ord_none (H : NAt p (sO R t []) L w) :
    Calls Try.prog 14 #[ptrV p, .int .i64 1, .int .i64 0, .int .i64 0] w fun e w' => e = .returned (.tuple #[.slice none 0 0, .int .i64 170]) ∧ w = w' :=
  deliver_no H okI_1 okI_0 (by simp [NSt.has, sO, fW_at])
theorem ord_send (H : NAt p (sO R t W) L w) (ht : Tok B t) (hB : B ≤ 1000000000) (g : Option Addr) (c : Nat) (bs : List Int) (hb : bs.length ≤ 1024) (hr : ∀ V, SL V L → RdB V g bs ∧ (g = none → c = 0)) :
    Calls Try.prog 11 #[ptrV p, .int .i64 1, .int .i64 0, .slice g bs.length c] w fun e w' => ∃ t', e = .returned (.int .i64 0) ∧ NAt p (sO R t' (grow R W bs)) L w' ∧ Tok (B + 1) t' := by
  have h := send_c H (ht.mono hB) okI_1 okI_0 g c bs hr
  have e : NSt.okB (sO R t W) 1 0 = true := by simp [NSt.okB, sO]
  unfold NSt.send at h
  rw [if_pos ⟨e, hb⟩] at h
  refine h.mono ?_
  rintro e w' ⟨rfl, h'⟩
  refine ⟨comeT R (fW W) (1, 0) { t with sent := t.sent + 1 }, rfl, ?_, ?_⟩
  · unfold NSt.come sO at h'
    dsimp only at h'
    rw [fW_come] at h'
    exact h'
  · unfold comeT
    split <;> exact ht.up (by dsimp only; omega) (by dsimp only; omega) (by dsimp only; omega) (by dsimp only; omega) (by dsimp only; omega) (by dsimp only; omega)
theorem ord_double (H : NAt p (sO R t W) L w) (ht : Tok B t) (hB : B ≤ 1000000000) {k : Nat} (hk : k < W.length) :
    Calls Try.prog 15 #[ptrV p, .int .i64 1, .int .i64 0, .int .i64 (k : Nat)] w fun e w' => ∃ t', e = .returned (.int .i64 0) ∧ NAt p (sO R t' (grow R W (W[k]'hk))) L w' ∧ Tok (B + 1) t' := by
  refine (double_yes H (ht.mono hB) okI_1 okI_0 (j := (k : Nat)) (by simp [NSt.has, sO, fW_at, hk])).mono ?_
  rintro e w' ⟨rfl, h'⟩
  refine ⟨comeT R (fW W) (1, 0) { t with doubled := t.doubled + 1 }, rfl, ?_, ?_⟩
  · unfold NSt.double NSt.come NSt.the sO at h'
    dsimp only at h'
    rw [fW_come, fW_at, Int.toNat_natCast, List.getD_eq_getElem?_getD, List.getElem?_eq_getElem hk] at h'
    exact h'
  · unfold comeT
    split <;> exact ht.up (by dsimp only; omega) (by dsimp only; omega) (by dsimp only; omega) (by dsimp only; omega) (by dsimp only; omega) (by dsimp only; omega)
theorem ord_all (H : NAt p (sO R t []) L w) : Calls Try.prog 16 #[ptrV p] w fun e w' => e = .returned (.int .i64 0) ∧ NAt p (sO R t []) L w' := by
  have h := all_c H
  have : allF (sO R t []).n (sO R t []).F = 0 := by
    have e : (sO R t []).F = fun _ => [] := by
      funext k
      unfold sO fW upd
      simp
    rw [e]
    unfold allF
    rw [show heldK (sO R t []).n (fun _ => []) = [] from List.filter_eq_nil_iff.2 (by simp)]
    rfl
  rw [this] at h
  exact h

theorem NAt.q_app {s : NSt} {t ty e : TypeId} {z : Value} {bytes B : Nat} {v : Value} {xs : List Value} {q : Pc} (E : ElemK Try.prog t e 1 z bytes) (h : QAt e B v xs q) (H : NAt p s (q :: L) w) {x : Addr} {y : Value} (hx : w.cell? x = some y) (h1 : y.oneCell' = true)
    (hB : B + 1 ≤ maxLen) (hbytes : (B + 1) * bytes ≤ 140737488355328) :
    ∃ v' w' q', (Builtin.append_ #[t, t] ty #[v, .slice (some x) 1 1]).run Try.prog w = .ok v' w' ∧ QAt e (B + 1) v' (xs ++ [y]) q' ∧ NAt p s (q' :: L) w' := by
  obtain ⟨m, xs', h1', ok, hF⟩ := H
  obtain ⟨v', w', q', hr, hq, H'⟩ := h.app (P := Try.prog) (ty := ty) E (h1'.perm List.perm_middle) hx h1 hB hbytes
  exact ⟨v', w', q', hr, hq, m, xs', H'.perm List.perm_middle.symm, ok, hF⟩
end
theorem wpList_run {P : Program} {w : World} {ops : Array Oper} {rest : List Oper} {o : Oper} {ac : Act} {Q : Exit → Act → World → Prop} (hgd : o.guard = none) (s x : Operand) (t : TypeId)
    (ho : o.op = .call { callee := .builtin .append, args := #[s, x], argTypes := #[t, t] }) {v1 v2 v' : Value} {w' : World} (hs : ac.eval s = v1) (hx : ac.eval x = v2)
    (hr : (Builtin.append_ #[t, t] o.type #[v1, v2]).run P w = .ok v' w') (kk : wpList P ops Q rest (ac.put o.dst v') w') : wpList P ops Q (o :: rest) ac w := by
  refine wpList_plain hgd fun K hK => ?_
  unfold Oper.wp execOp
  simp only [ho, resolve, invoke, builtin, Sem.run_bind, Sem.run_pure, Result.andThen_ok, List.map_toArray, List.map_cons, List.map_nil, hs, hx, hr]
  exact hK _ _ kk
theorem elemT : ElemK Try.prog 35 9 1 (.string ByteArray.empty) 16 := ⟨by kernel_rfl, by kernel_rfl, rfl, by decide⟩
end Go.Proofs.Ytnkahibddhchlaa
