/- A queue: a slice of the call's own of which the first elements are cut off (q = q[1:]), and appended to. Elements of one cell. Nothing here names the program. -/
import Derived.Test.YtnkahibddhchlaaSL
import Derived.ArgAppend
namespace Go.Proofs.Ytnkahibddhchlaa
open Go.RowKit
set_option linter.unusedVariables false

/-- The value v is a queue of xs; its piece is q; it lies no further than B. -/
def QAt (e : TypeId) (B : Nat) (v : Value) (xs : List Value) (q : Pc) : Prop :=
  (v = .slice none 0 0 ∧ xs = [] ∧ q = .own e 1 (.slice none 0 0) 0 []) ∨
  ∃ (g off o c cap : Nat) (pre : List Value), v = .slice (some ⟨g, o, none⟩) xs.length c ∧ ((o = off ∧ off + c = cap) ∨ (xs = [] ∧ c = 0)) ∧ pre.length = off ∧ off + xs.length ≤ cap ∧ off + xs.length ≤ B ∧
    q = .own e 1 (.slice (some ⟨g, 0, none⟩) (off + xs.length) cap) (off + xs.length) (pre ++ xs)

theorem QAt.nil (e : TypeId) (B : Nat) : QAt e B (.slice none 0 0) [] (.own e 1 (.slice none 0 0) 0 []) := .inl ⟨rfl, rfl, rfl⟩
theorem QAt.mono {e : TypeId} {B B' : Nat} {v : Value} {xs : List Value} {q : Pc} (h : QAt e B v xs q) (hB : B ≤ B') : QAt e B' v xs q := by
  rcases h with h | ⟨g, off, o, c, cap, pre, h1, h2, h3, h4, h5, h6⟩
  · exact .inl h
  · exact .inr ⟨g, off, o, c, cap, pre, h1, h2, h3, h4, by omega, h6⟩

section
variable {e : TypeId} {B : Nat} {v : Value} {xs : List Value} {q : Pc} {w : World} {L : List Pc}
theorem QAt.len (h : QAt e B v xs q) : ∃ a c, v = .slice a xs.length c ∧ (a = none → c = 0) ∧ (xs ≠ [] → ∃ x, a = some x) := by
  rcases h with ⟨rfl, rfl, rfl⟩ | ⟨g, off, o, c, cap, pre, rfl, h2, h3, h4, h5, rfl⟩
  · exact ⟨none, 0, rfl, fun _ => rfl, fun h => absurd rfl h⟩
  · exact ⟨_, _, rfl, (fun h => by cases h), fun _ => ⟨_, rfl⟩⟩
/-- What is read of it. -/
theorem QAt.cell (h : QAt e B v xs q) (H : SL w (q :: L)) {i : Nat} (hi : i < xs.length) : ∃ g o c, v = .slice (some ⟨g, o, none⟩) xs.length c ∧ xs.length ≤ c ∧ w.cell? ⟨g, o + i, none⟩ = some (xs[i]'hi) := by
  rcases h with ⟨rfl, rfl, rfl⟩ | ⟨g, off, o, c, cap, pre, rfl, h2, h3, h4, h5, rfl⟩
  · simp at hi
  · rcases h2 with ⟨rfl, h2⟩ | ⟨rfl, -⟩
    · refine ⟨g, o, c, rfl, by omega, ?_⟩
      have hown : OwnK w 0 e 1 (.slice (some ⟨g, 0, none⟩) (o + xs.length) cap) (o + xs.length) (pre ++ xs) := H.head
      rcases hown.form with ⟨e1, _, _⟩ | ⟨g', cap', e1, _, _, _, _, _, hc, _⟩
      · cases e1
      · cases e1
        rw [hc (o + i) (by omega), List.getD_eq_getElem?_getD, List.getElem?_append_right (by omega), show o + i - pre.length = i by omega, List.getElem?_eq_getElem hi]
        rfl
    · simp at hi
/-- The rest of it, cut off. -/
theorem QAt.next {x : Value} (h : QAt e B v (x :: xs) q) : ∃ g o c, v = .slice (some ⟨g, o, none⟩) (xs.length + 1) (c + 1) ∧ xs.length ≤ c ∧
    ∀ o', (c = 0 ∨ o' = o + 1) → QAt e B (.slice (some ⟨g, o', none⟩) xs.length c) xs q := by
  rcases h with ⟨_, h, _⟩ | ⟨g, off, o, c, cap, pre, rfl, h2, h3, h4, h5, rfl⟩
  · cases h
  · rcases h2 with ⟨rfl, h2⟩ | ⟨h, -⟩
    · simp only [List.length_cons] at h4 h5 ⊢
      obtain ⟨c', rfl⟩ : ∃ c', c = c' + 1 := ⟨c - 1, by omega⟩
      refine ⟨g, o, c', rfl, by omega, fun o' ho => .inr ⟨g, o + 1, o', c', cap, pre ++ [x], rfl, ?_, by simp [h3], by omega, by omega, ?_⟩⟩
      · rcases ho with rfl | rfl
        · exact .inr ⟨List.eq_nil_of_length_eq_zero (by omega), rfl⟩
        · exact .inl ⟨rfl, by omega⟩
      · rw [show o + (xs.length + 1) = o + 1 + xs.length by omega]
        simp
    · cases h

theorem QAt.own {v' : Value} {n : Nat} {ys : List Value} (h : OwnK w 0 e 1 v' n ys) (hn : n ≤ B) : QAt e B v' ys (.own e 1 v' n ys) := by
  rcases h.form with ⟨rfl, rfl, rfl⟩ | ⟨g, cap, rfl, _, _, h1, _, h2, _, _⟩
  · exact .inl ⟨rfl, rfl, rfl⟩
  · rw [Nat.mul_one] at h2
    subst h2
    exact .inr ⟨g, 0, 0, cap, cap, [], rfl, .inl ⟨rfl, by omega⟩, rfl, by omega, by omega, by simp⟩

/-- append(q, y). -/
theorem QAt.app {P : Program} {t ty : TypeId} {z : Value} {bytes : Nat} (E : ElemK P t e 1 z bytes) (h : QAt e B v xs q) (H : SL w (q :: L)) {x : Addr} {y : Value} (hx : w.cell? x = some y) (h1 : y.oneCell' = true)
    (hB : B + 1 ≤ maxLen) (hbytes : (B + 1) * bytes ≤ 140737488355328) :
    ∃ v' w' q', (Builtin.append_ #[t, t] ty #[v, .slice (some x) 1 1]).run P w = .ok v' w' ∧ QAt e (B + 1) v' (xs ++ [y]) q' ∧ SL w' (q' :: L) := by
  have hrd : Rd w (some x) [y].length (fun i => [y].getD i undef) := by
    intro i hi
    obtain rfl : i = 0 := by simpa using hi
    obtain ⟨b, o, s⟩ := x
    obtain rfl : s = none := by
      have := World.cell?_spot hx
      simpa using this
    exact ⟨b, o, rfl, hx⟩
  have hone : ∀ u ∈ [y], u.oneCell' = true := by simpa using h1
  have hcx : ∀ j u, [y][j]? = some u → w.cell? (x.add j) = some u := by
    intro j u hu
    obtain ⟨hj, rfl⟩ := List.getElem?_eq_some_iff.1 hu
    obtain rfl : j = 0 := by simpa using hj
    simpa [Addr.add] using hx
  have hmul : ∀ n, n ≤ B + 1 → n * bytes ≤ 140737488355328 := fun n hn => Nat.le_trans (Nat.mul_le_mul_right bytes hn) hbytes
  rcases h with ⟨rfl, rfl, rfl⟩ | ⟨g, off, o, c, cap, pre, rfl, h2, h3, h4, h5, rfl⟩
  · obtain ⟨v', w', hr, H', -⟩ := SL.appended (P := P) (ty := ty) (a := some x) (c := 1) E H (m := 1) (ys := [y]) rfl hrd hone (by simp only [maxLen] at hB ⊢; omega) (hmul _ (by omega)) (fun h => by cases h)
    exact ⟨v', w', _, hr, QAt.own H'.head (by omega), H'⟩
  · have hown : OwnK w 0 e 1 (.slice (some ⟨g, 0, none⟩) (off + xs.length) cap) (off + xs.length) (pre ++ xs) := H.head
    obtain ⟨i, hi, hz, hsz, hby⟩ := info_parts E.info
    by_cases hroom : xs.length + 1 ≤ c
    · have ho : o = off ∧ off + c = cap := by
        rcases h2 with h | ⟨_, h⟩
        · exact h
        · omega
      obtain ⟨rfl, h2⟩ := ho
      obtain ⟨v', w', hr, H', -⟩ := SL.appended (P := P) (ty := ty) (a := some x) (c := 1) E H (m := 1) (ys := [y]) rfl hrd hone (by simp only [maxLen] at hB ⊢; omega) (hmul _ (by omega)) (fun h => by cases h)
      have hcell : ∀ j, j < [y].length → (w.cell? ⟨g, o + xs.length * i.size + j, none⟩).isSome = true ∧ w.frozen? ⟨g, o + xs.length * i.size + j, none⟩ = false := by
        intro j hj
        obtain rfl : j = 0 := by simpa using hj
        rw [hsz]
        obtain ⟨-, h | ⟨g', cap', cur, e1, _, hg, hn, hm, hs, _⟩⟩ := hown
        · cases h.1
        · cases e1
          have hlt : o + xs.length * 1 + 0 < cur.size := by omega
          refine ⟨?_, blk_frozen hg _⟩
          rw [blk_cell hg _ (cur[o + xs.length * 1 + 0]'hlt) (by simp)]
          rfl
      have hr1 := run_append_room_cells (P := P) (w := w) t ty e i E.under hi g o xs.length c x 1 1 [y] (by simp [hsz]) hcx hone hroom (fun j hj => (hcell j hj).1) (fun j hj => (hcell j hj).2)
      have hr2 := run_append_room_cells (P := P) (w := w) t ty e i E.under hi g 0 (o + xs.length) cap x 1 1 [y] (by simp [hsz]) hcx hone (by omega) (fun j hj => by rw [hsz]; have := (hcell j hj).1; rw [hsz] at this; rw [show 0 + (o + xs.length) * 1 + j = o + xs.length * 1 + j by omega]; exact this) (fun j hj => by rw [hsz]; have := (hcell j hj).2; rw [hsz] at this; rw [show 0 + (o + xs.length) * 1 + j = o + xs.length * 1 + j by omega]; exact this)
      rw [hr] at hr2
      rw [hsz] at hr1 hr2
      simp only [Result.ok.injEq] at hr2
      obtain ⟨rfl, rfl⟩ := hr2
      rw [show 0 + (o + xs.length) * 1 = o + xs.length * 1 by omega] at H'
      refine ⟨_, _, _, hr1, .inr ⟨g, o, o, c, cap, pre, by simp, .inl ⟨rfl, h2⟩, h3, by simp; omega, by simp; omega, ?_⟩, H'⟩
      simp [Nat.add_assoc]
    · have hc0 : ∀ j u, xs[j]? = some u → w.cell? ((⟨g, o, none⟩ : Addr).add j) = some u := by
        intro j u hu
        obtain ⟨hj, rfl⟩ := List.getElem?_eq_some_iff.1 hu
        obtain ⟨g', o', c', e1, -, hcell⟩ := QAt.cell (v := .slice (some ⟨g, o, none⟩) xs.length c) (.inr ⟨g, off, o, c, cap, pre, rfl, h2, h3, h4, h5, rfl⟩) H hj
        cases e1
        by_cases h0 : j = 0
        · subst h0; simpa [Addr.add] using hcell
        · simpa [Addr.add, h0] using hcell
      obtain ⟨v', w', hr, ho, hg⟩ := run_append_arg_grows (P := P) (w := w) t ty e i z 1 bytes E.under hi hz hsz hby E.cells E.pos ⟨g, o, none⟩ xs.length c xs (by simp) hc0 x 1 1 [y] rfl hcx (by omega) (by simp only [maxLen] at hB ⊢; omega) (hmul _ (by omega))
      have H' : SL w' (.own e 1 v' (xs.length + 1) (xs ++ [y]) :: .own e 1 (.slice (some ⟨g, 0, none⟩) (off + xs.length) cap) (off + xs.length) (pre ++ xs) :: L) :=
        H.new (q := .own e 1 v' (xs.length + 1) (xs ++ [y])) ((Kp.of_grownK hg).mono fun _ _ h => by cases h) (OwnK.mono ho (Nat.zero_le _)) fun b hb => (OwnK.block ho hb).1
      exact ⟨v', w', _, hr, QAt.own H'.head (by omega), H'.re (.step (.here _ _) (.drop (.same _)))⟩
end
end Go.Proofs.Ytnkahibddhchlaa
