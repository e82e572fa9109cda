/- Alarms as a slice: what stands in it; slices.Delete. -/
import Derived.Test.YtcjmkpphohkofaaSlK
import Derived.Test.YtcjmkpphohkofaaProg
import Derived.Shelf.RegionOpenPlain
import Derived.Deep.LoopGhost
import Derived.Deep.RegionLaw
import Derived.Lib.Walk
import Derived.Sort.WalkB12
namespace Go.Proofs.Ytcjmkpphohkofaa
open Go.RowKit Go.Lib Go.Sort Go.Shelf
set_option linter.unusedVariables false

structure Al where
  key : Int
  wait : Int
  left : Int
  rung : Int
def Al.c (x : Al) : List Value := [.int .u64 x.key, .int .i64 x.wait, .int .i64 x.left, .int .i64 x.rung]
def alC (l : List Al) : List Value := l.flatMap Al.c
abbrev zAl : Value := .agg #[.int .u64 0, .int .i64 0, .int .i64 0, .int .i64 0]
theorem elemA : ElemK Try.prog 52 59 4 zAl 32 := ⟨by kernel_rfl, by kernel_rfl, rfl, by decide⟩
theorem zeroA : ∀ w, (zeroValue 59).run Try.prog w = .ok zAl w := fun w => by simp [go_sem]
theorem alC_length (l : List Al) : (alC l).length = l.length * 4 := by
  induction l with
  | nil => rfl
  | cons x l ih => simp only [alC, List.flatMap_cons, List.length_append, List.length_cons] at ih ⊢; rw [ih]; simp only [Al.c, List.length_cons, List.length_nil]; omega
theorem alC_append (l m : List Al) : alC (l ++ m) = alC l ++ alC m := by simp [alC]
theorem alC_one : ∀ (l : List Al), ∀ u ∈ alC l, u.oneCell' = true := by
  intro l u hu
  obtain ⟨x, -, h⟩ := List.mem_flatMap.1 hu
  simp only [Al.c, List.mem_cons, List.not_mem_nil, or_false] at h
  rcases h with rfl | rfl | rfl | rfl <;> rfl
theorem alC_take (l : List Al) : ∀ i, (alC l).take (i * 4) = alC (l.take i) := by
  induction l with
  | nil => intro i; simp [alC]
  | cons x l ih =>
    intro i
    cases i with
    | zero => rfl
    | succ i =>
      show (x.c ++ alC l).take ((i + 1) * 4) = x.c ++ alC (l.take i)
      rw [← ih i, show (i + 1) * 4 = x.c.length + i * 4 by simp only [Al.c, List.length_cons, List.length_nil]; omega, List.take_append, Nat.add_sub_cancel_left, List.take_of_length_le (Nat.le_add_right _ _)]
theorem alC_drop (l : List Al) : ∀ i, (alC l).drop (i * 4) = alC (l.drop i) := by
  induction l with
  | nil => intro i; simp [alC]
  | cons x l ih =>
    intro i
    cases i with
    | zero => rfl
    | succ i =>
      show (x.c ++ alC l).drop ((i + 1) * 4) = alC (l.drop i)
      rw [← ih i, show (i + 1) * 4 = x.c.length + i * 4 by simp only [Al.c, List.length_cons, List.length_nil]; omega, List.drop_append]
      simp
theorem alC_at (l : List Al) : ∀ {i : Nat} (hi : i < l.length), (alC l)[i * 4]? = some (.int .u64 (l[i]'hi).key) ∧ (alC l)[i * 4 + 1]? = some (.int .i64 (l[i]'hi).wait) ∧ (alC l)[i * 4 + 2]? = some (.int .i64 (l[i]'hi).left) ∧ (alC l)[i * 4 + 3]? = some (.int .i64 (l[i]'hi).rung) := by
  induction l with
  | nil => intro i hi; simp at hi
  | cons x l ih =>
    intro i hi
    cases i with
    | zero => exact ⟨rfl, rfl, rfl, rfl⟩
    | succ i =>
      have := ih (i := i) (by simpa using hi)
      have e : ∀ j, (alC (x :: l))[(i + 1) * 4 + j]? = (alC l)[i * 4 + j]? := fun j => by
        show (x.c ++ alC l)[_]? = _
        rw [show (i + 1) * 4 + j = x.c.length + (i * 4 + j) by simp only [Al.c, List.length_cons, List.length_nil]; omega, List.getElem?_append_right (by omega), Nat.add_sub_cancel_left]
      exact ⟨(e 0).trans this.1, (e 1).trans this.2.1, (e 2).trans this.2.2.1, (e 3).trans this.2.2.2⟩

set_option maxHeartbeats 4000000 in
set_option maxRecDepth 1000000 in
theorem delete_c {v : Value} {l : List Al} {w : World} {L : List Pc} (H : SL w (.own 59 4 v l.length (alC l) :: L)) {i j : Nat} (hij : i ≤ j) (hj : j ≤ l.length) (hl : l.length ≤ 100000) :
    Calls Try.prog 31 #[v, .int .i64 i, .int .i64 j] w fun e w' => ∃ v', e = .returned v' ∧ SL w' (.own 59 4 v' (l.length - (j - i)) (alC (l.take i ++ l.drop j)) :: L) := by
  have mixed : Try.prog.follows Departure.mixedOrders = true := by kernel_rfl
  obtain ⟨n, hn⟩ : ∃ n, l.length = n := ⟨_, rfl⟩
  rw [hn] at H hj hl ⊢
  have hown : OwnK w 0 59 4 v n (alC l) := H.head
  by_cases heq : i = j
  · subst heq
    obtain ⟨a, cap, rfl, h1, h2, h3, -, -⟩ := hown.slice
    have hfin : Hid (∀ m, m = n → SL w (.own 59 4 (.slice a m cap) m (alC l) :: L)) := Lib.hid (fun m hm => by subst hm; exact H)
    clear H hown hn
    go_enter Try.func31, Try.ntmps31
    go_wp2_with fail
    all_goals
      go_ret
      exact ⟨_, rfl, hfin.out _ (by omega)⟩
  · rcases hown.form with ⟨-, e, -⟩ | ⟨g, cap, rfl, -, -, hnc, hcm, -, -, -⟩
    · omega
    obtain ⟨cs, hcs, -, -, htk, HB⟩ := H.toBlk
    have hlt : i < j := by omega
    have hcl : n * 4 ≤ cs.length := by rw [hcs]; exact Nat.mul_le_mul_right 4 hnc
    -- what is appended
    obtain ⟨vs, hvs⟩ : ∃ vs, vs = alC (l.drop j) := ⟨_, rfl⟩
    have hvl : vs.length = (n - j) * 4 := by rw [hvs, alC_length, List.length_drop, hn]
    have hpart : (cs.drop (j * 4)).take ((n - j) * 4) = vs := by
      rw [hvs, ← alC_drop, ← htk, List.drop_take]
      congr 1
      omega
    obtain ⟨A, hA, hsrc⟩ : ∃ A : Addr, (if cap = j then some (⟨g, 0, none⟩ : Addr) else some ⟨g, j * 4, none⟩) = some A ∧ ∀ t u, vs[t]? = some u → w.drew.cell? (A.add t) = some u := by
      by_cases h : cap = j
      · refine ⟨⟨g, 0, none⟩, by simp [h], fun t u hu => ?_⟩
        have h0 : vs.length = 0 := by rw [hvl]; omega
        rw [List.length_eq_zero_iff.1 h0] at hu
        simp at hu
      · refine ⟨⟨g, j * 4, none⟩, by simp [h], fun t u hu => ?_⟩
        rw [← hpart] at hu
        exact blk_part HB.drew (j * 4) ((n - j) * 4) (by omega) t u hu
    have h1 : ∀ u ∈ vs, u.oneCell' = true := by rw [hvs]; exact alC_one _
    obtain ⟨ho1, HB1⟩ := (fun ty => run_roomK (P := Try.prog) (ty := ty) elemA HB.drew i cap A (n - j) (cap - j) vs hvl hsrc h1 hcs (by omega)) 0
    have happ := Lib.hid (fun ty => (run_roomK (P := Try.prog) (ty := ty) elemA HB.drew i cap A (n - j) (cap - j) vs hvl hsrc h1 hcs (by omega)).1)
    obtain ⟨W1, hW1⟩ : ∃ W1, w.drew.setCells g (i * 4) vs = W1 := ⟨_, rfl⟩
    rw [hW1] at HB1 happ
    have hsl1 : (splice cs (i * 4) vs).length = cs.length := splice_length _ _ _ (by rw [hvl]; omega)
    have hfit2 : (i + (n - j)) * 4 + (n - (i + (n - j))) * 4 ≤ (splice cs (i * 4) vs).length := by rw [hsl1]; omega
    have hz1 := zero_one (zs := zAl.cells) (n := n - (i + (n - j))) (by decide) (by decide)
    have hclr := Lib.hid (fun ty => (run_clearK (P := Try.prog) (ty := ty) elemA zeroA HB1 ((i + (n - j)) * 4) (n - (i + (n - j))) (cap - (i + (n - j))) hfit2 hz1).1)
    have HB2 := (run_clearK (P := Try.prog) (ty := 0) elemA zeroA HB1 ((i + (n - j)) * 4) (n - (i + (n - j))) (cap - (i + (n - j))) hfit2 hz1).2
    have hfin : Hid (SL _ (.own 59 4 (.slice (some ⟨g, 0, none⟩) (i + (n - j)) cap) (n - (j - i)) (alC (l.take i ++ l.drop j)) :: L)) := Lib.hid (by
      have h := HB2.toOwn (k := 4) (n := i + (n - j)) (cap := cap) (by rw [splice_length _ _ _ (by rw [Array.length_toList, size_zeroCells]; exact hfit2), hsl1, hcs]) (by omega) hcm
      have e : (splice (splice cs (i * 4) vs) ((i + (n - j)) * 4) (Builtin.zeroCells zAl.cells (n - (i + (n - j)))).toList).take ((i + (n - j)) * 4) = alC (l.take i ++ l.drop j) := by
        have e1 : cs.take (i * 4) = alC (l.take i) := by rw [← alC_take, ← htk, List.take_take, Nat.min_eq_left (by omega)]
        unfold splice
        rw [e1, alC_append, ← hvs]
        have hl1 : (alC (l.take i) ++ vs).length = (i + (n - j)) * 4 := by rw [List.length_append, alC_length, List.length_take, hvl, hn, Nat.min_eq_left (by omega)]; omega
        rw [List.append_assoc, List.take_append_of_le_length (by rw [List.length_take, List.length_append, hl1]; omega), List.take_take, Nat.min_self]
        rw [← hl1, List.take_left]
      rw [e] at h
      rw [show n - (j - i) = i + (n - j) by omega]
      exact h)
    generalize W1.setCells g ((i + (n - j)) * 4) _ = W2 at hclr hfin
    have hic : i ≤ cap := by omega
    have hjc : j ≤ cap := by omega
    clear ho1 HB1 HB2 hz1 hfit2 hsl1 hW1 h1 hsrc hpart hvl hvs htk hcs HB H hown hcl hn
    go_enter Try.func31, Try.ntmps31
    go_wp2_with fail
    go_region_law_o (refine step_append_run rfl (.tmp 22) (.tmp 25) 52 52 rfl (.slice (some ⟨g, 0, none⟩) i cap) (.slice (some A) (n - j) (cap - j)) (by simp [Act.eval, Act.put]) (by simp [Act.eval, Act.put]) (happ.out _) ?_)
    have hclr' := hclr.out
    go_wp2
    go_ret
    exact ⟨_, rfl, hfin.out⟩
end Go.Proofs.Ytcjmkpphohkofaa
