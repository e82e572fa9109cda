/- The reference's two grids: rows of spans, rows of moves; one more put behind a row. -/
import Derived.Test.YtamhlmfcnnomgaaGridS
import Derived.Test.YtamhlmfcnnomgaaPlanL
import Derived.Test.YtamhlmfcnnomgaaPlanR
import Derived.Test.YtamhlmfcnnomgaaEnds
import Derived.Test.YtamhlmfcnnomgaaOrderApp
namespace Go.Proofs.Ytamhlmfcnnomgaa
open Go.RowKit
set_option linter.unusedVariables false

theorem arm_app {P : Program} {w w' : World} {ops : Array Oper} {rest : List Oper} {o : Oper} {ac : Act} {Q : Exit → Act → World → Prop} (hgd : o.guard = none) (s x : Operand) (t : TypeId)
    (ho : o.op = .call { callee := .builtin .append, args := #[s, x], argTypes := #[t, t] }) (v sl : Value) {v' : Value} (hs : ac.eval s = v) (hx : ac.eval x = sl)
    (hrun : (Builtin.append_ #[t, t] o.type #[v, sl]).run P w = .ok v' w') (kk : wpList P ops Q rest (ac.put o.dst v') w') : wpList P ops Q (o :: rest) ac w := by
  refine wpList_plain hgd fun K hK => ?_
  unfold Oper.wp execOp
  simp only [ho, resolve, invoke, builtin, Sem.run_bind, Sem.run_pure, Result.andThen_ok, List.map_toArray, List.map_cons, List.map_nil, hs, hx, hrun]
  exact hK _ _ kk
theorem wrapS {n : Nat} (h : n ≤ 1000000) : IntKind.i64.wrap (n : Int) = n := by rw [IntKind.wrap_i64]; omega
theorem elemHd1 : ElemK Try.prog 39 33 1 (.slice none 0 0) 24 := ⟨by kernel_rfl, by kernel_rfl, rfl, by decide⟩
theorem elemHd2 : ElemK Try.prog 40 24 1 (.slice none 0 0) 24 := ⟨by kernel_rfl, by kernel_rfl, rfl, by decide⟩
abbrev gH (B : Nat) (R : List (Value × List (Nat × Nat))) : Pc := .gen (gridG B 33 29 2 spCells R)
abbrev gM (B : Nat) (R : List (Value × List Mv)) : Pc := .gen (gridG B 24 31 5 mvCells R)

theorem rows_len {α : Type} {R : List (Value × List α)} {F : Nat → List α} {n K : Nat} {l : List α} (h : R.map (·.2) = stage F n K l) : R.length = n := by
  have := congrArg List.length h
  rwa [List.length_map, stage_len] at this
theorem rows_at {α : Type} {R : List (Value × List α)} {F : Nat → List α} {n K : Nat} {l : List α} (h : R.map (·.2) = stage F n K l) {j : Nat} (hj : j < n) (hj' : j < R.length) : (R[j]'hj').2 = if j < K then F j else if j = K then l else [] := by
  have e : (R[j]'hj').2 = (R.map (·.2))[j]'(by rw [List.length_map]; exact hj') := by rw [List.getElem_map]
  rw [e, List.getElem_of_eq h, stage_at F l hj]
theorem rows_put {α : Type} {R : List (Value × List α)} {F : Nat → List α} {n K : Nat} {l : List α} (h : R.map (·.2) = stage F n K l) (hK : K < n) (hK' : K < R.length) (v : Value) (ys : List α) :
    (R.set K (v, (R[K]'hK').2 ++ ys)).map (·.2) = stage F n K (l ++ ys) := by
  rw [List.map_set, rows_at h hK hK', if_neg (by omega), if_pos rfl, h]
  exact stage_set F n K l (l ++ ys)

theorem row_is {α : Type} {R : List (Value × List α)} {X : List (List α)} (h : R.map (·.2) = X) {k : Nat} (hk : k < R.length) (hk' : k < X.length) : (R[k]'hk).2 = X[k]'hk' := by
  have e : (R[k]'hk).2 = (R.map (·.2))[k]'(by rw [List.length_map]; exact hk) := by rw [List.getElem_map]
  rw [e, List.getElem_of_eq h]
theorem rd_blkP {w : World} {M M' : List Pc} {g : Nat} {cs : List Value} {t : TypeId} (H : SL w M) (hp : Pull M (.blk g cs t) M') : Rd w (some ⟨g, 0, none⟩) cs.length (fun i => cs.getD i undef) := fun i hi =>
  ⟨g, 0, rfl, by
    rw [Nat.zero_add]
    exact H.cell hp (by simp [List.getD_eq_getElem?_getD, List.getElem?_eq_getElem hi])⟩

section
variable {α : Type} {te tr : TypeId} {k bytes : Nat} {z : Value} {f : α → List Value} (E : ElemK Try.prog tr te k z bytes) (hf : ∀ x, (f x).length = k) (hcell : ∀ x, ∀ u ∈ f x, u.oneCell' = true) (hby : bytes ≤ 100)
include E hf hcell hby
/-- One more behind the row K: the header's value; the append; the grid behind the store. -/
theorem g_app {ty : TypeId} {B : Nat} {R : List (Value × List α)} {F : Nat → List α} {n K : Nat} {l : List α} (hR : R.map (·.2) = stage F n K l) (hK : K < n) (hl : l.length ≤ 5000) :
    ∃ v0, (∀ W M M', SL W M → Pull M (.gen (gridG B tr te k f R)) M' → W.cell? ⟨B, K, none⟩ = some v0 ∧ W.frozen? ⟨B, K, none⟩ = false) ∧
      ∀ W g x L, SL W (.gen (gridG B tr te k f R) :: .blk g (f x) te :: L) → ∃ a' c' w', (Builtin.append_ #[tr, tr] ty #[v0, .slice (some ⟨g, 0, none⟩) 1 1]).run Try.prog W = .ok (.slice a' (l.length + 1) c') w' ∧
        w'.cell? ⟨B, K, none⟩ = some v0 ∧ w'.frozen? ⟨B, K, none⟩ = false ∧ SL w' L ∧
        (∀ j (hj : j < R.length), w'.cell? ⟨B, j, none⟩ = some (R[j]'hj).1 ∧ (j ≠ K → OwnK w' 0 te k (R[j]'hj).1 (R[j]'hj).2.length ((R[j]'hj).2.flatMap f))) ∧
        ∃ R', R'.map (·.2) = stage F n K (l ++ [x]) ∧ (∀ j (hj : j < R.length) (hj' : j < R'.length), j ≠ K → R'[j]'hj' = R[j]'hj) ∧ SL (w'.setCell ⟨B, K, none⟩ (.slice a' (l.length + 1) c')) (.gen (gridG B tr te k f R') :: L) := by
  have hlen := rows_len hR
  have hK' : K < R.length := by omega
  have hat := rows_at hR hK hK'
  rw [if_neg (by omega), if_pos rfl] at hat
  refine ⟨(R[K]'hK').1, fun W M M' h hp => ⟨grid_cell h hp hK', grid_free h hp K⟩, fun W g x L h => ?_⟩
  have hfx : [x].flatMap f = f x := by simp
  obtain ⟨v', w', hr, h1, h2, h3, h4, h5⟩ := grid_app (P := Try.prog) (ty := ty) E h hK' (a := some ⟨g, 0, none⟩) (m := 1) (c := 1) [x] hf rfl (by rw [hfx]; exact rd_blkP h (.there (.here _ _))) (by rw [hfx]; exact hcell x)
    (by rw [hat]; simp only [maxLen]; omega) (by rw [hat]; have : (l.length + 1) * bytes ≤ 5001 * 100 := Nat.mul_le_mul (by omega) hby; omega) (fun h => by cases h)
  obtain ⟨a', c', rfl, -⟩ : ∃ a' c', v' = .slice a' (l.length + 1) c' ∧ True := by
    have ho := grid_row h5 (.here _ _) (i := K) (by rw [List.length_set]; exact hK')
    rw [List.getElem_set_self] at ho
    obtain ⟨a', c', e, -⟩ := ho.slice
    refine ⟨a', c', ?_, trivial⟩
    dsimp only at e
    rw [e, List.length_append, hat]
    rfl
  refine ⟨a', c', w', hr, h1 K hK', h2 K, h3.tail, fun j hj => ⟨h1 j hj, fun hjk => h4 j hj hjk⟩, _, rows_put hR hK hK' (.slice a' (l.length + 1) c') [x], fun j hj hj' hjk => by rw [List.getElem_set_ne (fun e => hjk e.symm)], ?_⟩
  exact h5.re (.step (.here _ _) (.drop (.same _)))
end
theorem sp_cells1 (x : Nat × Nat) : ∀ u ∈ spCells x, u.oneCell' = true := by
  intro u hu; simp [spCells] at hu; rcases hu with rfl | rfl <;> rfl
theorem mv_cells1 (x : Mv) : ∀ u ∈ mvCells x, u.oneCell' = true := by
  intro u hu; simp [mvCells] at hu; rcases hu with rfl | rfl | rfl | rfl | rfl <;> rfl
/-- A span of a row. -/
theorem sp_at {w : World} {a : Option Addr} {n c : Nat} {l : List (Nat × Nat)} (h : OwnK w 0 29 2 (.slice a n c) l.length (l.flatMap spCells)) {j : Nat} (hj : j < l.length) :
    ∃ b, a = some ⟨b, 0, none⟩ ∧ n = l.length ∧ n ≤ c ∧ w.cell? ⟨b, j * 2, none⟩ = some (.int .i64 (l[j]'hj).1) ∧ w.cell? ⟨b, j * 2 + 1, none⟩ = some (.int .i64 (l[j]'hj).2) := by
  have hget : ∀ (l : List (Nat × Nat)) (j : Nat) (hj : j < l.length), (l.flatMap spCells).getD (j * 2) undef = .int .i64 (l[j]'hj).1 ∧ (l.flatMap spCells).getD (j * 2 + 1) undef = .int .i64 (l[j]'hj).2 := by
    intro l
    induction l with
    | nil => intro j hj; simp at hj
    | cons x l ih =>
      intro j hj
      cases j with
      | zero => simp [spCells]
      | succ j =>
        have := ih j (by simpa using hj)
        simp only [List.flatMap_cons, List.getElem_cons_succ]
        rw [show (j + 1) * 2 = j * 2 + 2 by omega]
        simpa [spCells] using this
  rcases h.form with ⟨e, h0, _⟩ | ⟨g, cap, e, _, _, hc, _, _, hcl, _⟩
  · omega
  · cases e
    refine ⟨g, rfl, rfl, hc, ?_, ?_⟩
    · rw [hcl (j * 2) (by omega), (hget l j hj).1]
    · rw [hcl (j * 2 + 1) (by omega), (hget l j hj).2]
/-- What is read of a row of spans. -/
theorem row_facts {W0 : World} {M0 M0' : List Pc} {B : Nat} {R : List (Value × List (Nat × Nat))} (h0 : SL W0 M0) (hp0 : Pull M0 (gH B R) M0') {k : Nat} (hk : k < R.length) {l : List (Nat × Nat)} (hl : (R[k]'hk).2 = l) {m : Nat} (hm : l.length = m) (hn : 0 < m) :
    ∃ hb hc, m ≤ hc ∧ ∀ W M M', SL W M → Pull M (gH B R) M' → W.cell? ⟨B, k, none⟩ = some (.slice (some ⟨hb, 0, none⟩) m hc) ∧
      ∀ j (hj : j < l.length), W.cell? ⟨hb, j * 2, none⟩ = some (.int .i64 (l[j]'hj).1) ∧ W.cell? ⟨hb, j * 2 + 1, none⟩ = some (.int .i64 (l[j]'hj).2) := by
  subst hm hl
  have ho := grid_row h0 hp0 hk
  obtain ⟨a, c, e, -⟩ := ho.slice
  rw [e] at ho
  obtain ⟨hb, rfl, -, hc, -⟩ := sp_at ho hn
  refine ⟨hb, c, hc, fun W M M' h hp => ⟨by rw [grid_cell h hp hk, e], fun j hj => ?_⟩⟩
  have h2 := grid_row h hp hk
  rw [e] at h2
  obtain ⟨b2, e2, -, -, h3, h4⟩ := sp_at h2 hj
  cases e2
  exact ⟨h3, h4⟩
theorem row_facts1 {W : World} {B k : Nat} {v : Value} {l : List (Nat × Nat)} (hc : W.cell? ⟨B, k, none⟩ = some v) (ho : OwnK W 0 29 2 v l.length (l.flatMap spCells)) {hb m c : Nat} (hv : v = .slice (some ⟨hb, 0, none⟩) m c) {j : Nat} (hj : j < l.length) :
    W.cell? ⟨B, k, none⟩ = some (.slice (some ⟨hb, 0, none⟩) m c) ∧ W.cell? ⟨hb, j * 2, none⟩ = some (.int .i64 (l[j]'hj).1) ∧ W.cell? ⟨hb, j * 2 + 1, none⟩ = some (.int .i64 (l[j]'hj).2) := by
  subst hv
  obtain ⟨b2, e2, -, -, h3, h4⟩ := sp_at ho hj
  cases e2
  exact ⟨hc, h3, h4⟩
theorem row_val {W : World} {v : Value} {l : List (Nat × Nat)} (ho : OwnK W 0 29 2 v l.length (l.flatMap spCells)) {m : Nat} (hm : l.length = m) (hn : 0 < m) : ∃ hb c, v = .slice (some ⟨hb, 0, none⟩) m c ∧ m ≤ c := by
  subst hm
  obtain ⟨a, c, e, -⟩ := ho.slice
  rw [e] at ho
  obtain ⟨hb, rfl, -, hc, -⟩ := sp_at ho hn
  exact ⟨hb, c, e, hc⟩
theorem q_end {p t : Nat} (h0 : 1 ≤ p) (h : p < 2 ^ (t + 1)) (h1 : 2 ^ t ≤ p) : 2 ^ t = qOf p := by
  unfold qOf; rw [log2_lt_of h0 h h1]
/-- One more span stands behind the row under way. -/
def CutH (p s n K i B : Nat) (x : Nat × Nat) (T : List Pc) (V : World) : Prop := ∃ R1 : List (Value × List (Nat × Nat)), R1.map (·.2) = stage (fun j => heldRow 1 p s j p) n K (heldRow 1 p s K i ++ [x]) ∧ SL V (gH B R1 :: T)
theorem div_bit {i p b : Nat} (h : i < p) (h2 : p ≤ 64) : (wrap64 ((i : Int) / (b : Int))).tmod 2 = ((i / b % 2 : Nat) : Int) := by
  have e : (i : Int) / (b : Int) = ((i / b : Nat) : Int) := (Int.natCast_ediv _ _).symm
  have hl : i / b ≤ i := Nat.div_le_self _ _
  rw [e]
  generalize i / b = x at *
  have w : wrap64 (x : Int) = x := by unfold wrap64; omega
  rw [w, Int.tmod_eq_emod_of_nonneg (Int.natCast_nonneg _)]
  rfl
end Go.Proofs.Ytamhlmfcnnomgaa
