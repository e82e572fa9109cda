/- The reference's net: its pieces; New, Len, Twin, At. -/
import Derived.Test.YtnkahibddhchlaaApartL
import Derived.Test.YtnkahibddhchlaaAlive
import Derived.Deep.CutBlock
import Derived.Deep.CutRange
namespace Go.Proofs.Ytnkahibddhchlaa
open Go.RowKit Go.Shelf
set_option linter.unusedVariables false

structure RG where
  k : Ky
  v : SlT
  bs : List Int
def rgC (l : List RG) : List Value := l.flatMap fun g => [.int .i64 g.k.1, .int .i64 g.k.2, slV g.v]
def rgP (g : RG) : Pc := grP ⟨g.v, g.bs⟩
def rgB (y : Nat) (n room : Int) (sl : Value) (t : Tf) : Pc :=
  .blk y [.int .i64 n, .int .i64 room, sl, .int .i64 t.sent, .int .i64 t.doubled, .int .i64 t.delivered, .int .i64 t.dropped, .int .i64 t.lost, .int .i64 t.flipped] 83
def rgS (sl : Value) (l : List RG) : Pc := .own 91 3 sl l.length (rgC l)
def rnP (y : Nat) (n room : Int) (sl : Value) (t : Tf) (l : List RG) : List Pc := rgB y n room sl t :: rgS sl l :: l.map rgP
/-- The reference's state: what is in flight, in order. -/
structure RSt where
  n : Nat
  room : Nat
  t : Tf
  l : List (Ky × List Int)
def RG.m (g : RG) : Ky × List Int := (g.k, g.bs)
def RAt (y : Nat) (s : RSt) (L : List Pc) (w : World) : Prop := ∃ sl gs, SL w (rnP y s.n s.room sl s.t gs ++ L) ∧ gs.map RG.m = s.l
def filt (l : List (Ky × List Int)) (k : Ky) : List (List Int) := (l.filter fun x => decide (x.1 = k)).map (·.2)

theorem elemG : ElemK Try.prog 81 91 3 (.agg #[.int .i64 0, .int .i64 0, .slice none 0 0]) 40 := ⟨by kernel_rfl, by kernel_rfl, rfl, by decide⟩
theorem rgC_length (l : List RG) : (rgC l).length = l.length * 3 := by
  induction l with
  | nil => rfl
  | cons k l ih => simp only [rgC, List.flatMap_cons, List.length_append, List.length_cons, List.length_nil] at ih ⊢; rw [ih]; omega
theorem rgC_append (l k : List RG) : rgC (l ++ k) = rgC l ++ rgC k := by simp [rgC]
theorem rgC_at (l : List RG) {i : Nat} (hi : i < l.length) : (rgC l).getD (i * 3) undef = .int .i64 (l[i]'hi).k.1 ∧ (rgC l).getD (i * 3 + 1) undef = .int .i64 (l[i]'hi).k.2 ∧ (rgC l).getD (i * 3 + 2) undef = slV (l[i]'hi).v := by
  induction l generalizing i with
  | nil => simp at hi
  | cons k l ih =>
    cases i with
    | zero => exact ⟨rfl, rfl, rfl⟩
    | succ i =>
      have := ih (i := i) (by simpa using hi)
      have e : ∀ j, (rgC (k :: l)).getD ((i + 1) * 3 + j) undef = (rgC l).getD (i * 3 + j) undef := fun j => by
        show (Value.int .i64 k.k.1 :: .int .i64 k.k.2 :: slV k.v :: rgC l).getD _ _ = _
        rw [show (i + 1) * 3 + j = (i * 3 + j) + 1 + 1 + 1 by omega]
        rfl
      exact ⟨(e 0).trans this.1, (e 1).trans this.2.1, (e 2).trans this.2.2⟩
theorem filt_snoc (l : List (Ky × List Int)) (x : Ky × List Int) (k : Ky) : filt (l ++ [x]) k = filt l k ++ (if x.1 = k then [x.2] else []) := by
  unfold filt
  rw [List.filter_append, List.map_append]
  congr 1
  by_cases h : x.1 = k <;> simp [h]
theorem filt_take (l : List (Ky × List Int)) (k : Ky) {j : Nat} (hj : j < l.length) : filt (l.take (j + 1)) k = filt (l.take j) k ++ (if (l[j]'hj).1 = k then [(l[j]'hj).2] else []) := by
  rw [List.take_succ_eq_append_getElem hj, filt_snoc]
theorem filt_le (l : List (Ky × List Int)) (k : Ky) : (filt l k).length ≤ l.length := by
  unfold filt
  rw [List.length_map]
  exact List.length_filter_le _ _

/-- Where the slice lies. -/
theorem rg_cells {w : World} {L L' : List Pc} {sl : Value} {gs : List RG} (H : SL w L) (hp : Pull L (rgS sl gs) L') : ∃ a c, sl = .slice a gs.length c ∧ gs.length ≤ c ∧ c ≤ maxLen ∧ (a = none → c = 0) ∧
    ∀ i (hi : i < gs.length), ∃ g, a = some ⟨g, 0, none⟩ ∧ w.cell? ⟨g, i * 3, none⟩ = some (.int .i64 (gs[i]'hi).k.1) ∧ w.cell? ⟨g, i * 3 + 1, none⟩ = some (.int .i64 (gs[i]'hi).k.2) ∧ w.cell? ⟨g, i * 3 + 2, none⟩ = some (slV (gs[i]'hi).v) := by
  have h1 : OwnK w 0 91 3 sl gs.length (rgC gs) := H.all _ hp.mem
  rcases h1.form with ⟨rfl, e, _⟩ | ⟨g, cap, rfl, h2, h3, h4, h5, h6, h7, h8⟩
  · exact ⟨none, 0, by rw [e], by omega, Nat.zero_le _, fun _ => rfl, fun i hi => by omega⟩
  · refine ⟨some ⟨g, 0, none⟩, cap, rfl, h4, h5, (fun h => by cases h), fun i hi => ⟨g, rfl, ?_, ?_, ?_⟩⟩
    · rw [h7 _ (by omega), (rgC_at gs hi).1]
    · rw [h7 _ (by omega), (rgC_at gs hi).2.1]
    · rw [h7 _ (by omega), (rgC_at gs hi).2.2]

/-- What the walks read of it. -/
structure RRd (w : World) (y : Nat) (s : RSt) (a : Option Addr) (c : Nat) : Prop where
  n : w.cell? ⟨y, 0, none⟩ = some (.int .i64 s.n)
  room : w.cell? ⟨y, 1, none⟩ = some (.int .i64 s.room)
  sl : w.cell? ⟨y, 2, none⟩ = some (.slice a s.l.length c)
  cap : s.l.length ≤ c ∧ c ≤ maxLen
  nil : a = none → c = 0
  at' : ∀ i (hi : i < s.l.length), ∃ g v, a = some ⟨g, 0, none⟩ ∧ w.cell? ⟨g, i * 3, none⟩ = some (.int .i64 (s.l[i]'hi).1.1) ∧ w.cell? ⟨g, i * 3 + 1, none⟩ = some (.int .i64 (s.l[i]'hi).1.2) ∧ w.cell? ⟨g, i * 3 + 2, none⟩ = some (slV v) ∧
    ∃ va vc, v = (va, (s.l[i]'hi).2.length, vc) ∧ RdB w va (s.l[i]'hi).2 ∧ (va = none → vc = 0)

section
variable {y : Nat} {s : RSt} {L : List Pc} {w : World}
theorem RAt.rd (H : RAt y s L w) : ∃ a c, RRd w y s a c := by
  obtain ⟨sl, gs, H, hl⟩ := H
  have hlen : s.l.length = gs.length := by rw [← hl]; simp
  obtain ⟨a, c, rfl, h1, h2, h3, h4⟩ := rg_cells H (.there (.here _ _))
  refine ⟨a, c, ⟨H.cell (b := y) (o := 0) (.here _ _) rfl, H.cell (b := y) (o := 1) (.here _ _) rfl, ?_, by omega, h3, fun i hi => ?_⟩⟩
  · rw [hlen]; exact H.cell (b := y) (o := 2) (.here _ _) rfl
  · have hg : i < gs.length := by omega
    obtain ⟨g, rfl, e1, e2, e3⟩ := h4 i hg
    have hm : s.l[i]'hi = (gs[i]'hg).m := by simp [← hl]
    obtain ⟨g2, hp⟩ : ∃ L', Pull (rnP y s.n s.room (.slice (some ⟨g, 0, none⟩) gs.length c) s.t gs ++ L) (rgP (gs[i]'hg)) L' := by
      have : (rgP (gs[i]'hg)) ∈ rnP y s.n s.room (.slice (some ⟨g, 0, none⟩) gs.length c) s.t gs ++ L := by
        unfold rnP
        simp only [List.cons_append, List.mem_cons, List.mem_append, List.mem_map]
        exact .inr (.inr (.inl ⟨_, List.getElem_mem hg, rfl⟩))
      obtain ⟨A, B, e⟩ := List.append_of_mem this
      rw [e]
      refine ⟨A ++ B, ?_⟩
      clear e this
      induction A with
      | nil => exact .here _ _
      | cons x A ih => exact .there ih
    obtain ⟨va, vc, e4, h6, h7, h8⟩ := gr_slice (g := ⟨(gs[i]'hg).v, (gs[i]'hg).bs⟩) H hp
    rw [hm]
    exact ⟨g, _, rfl, e1, e2, e3, va, vc, e4, h7, h6⟩

theorem rlen_w {a : Option Addr} {c : Nat} (R : RRd w y s a c) (hB : s.l.length ≤ 2000000) (k1 k2 : Int) :
    Calls Try.prog 26 #[ptrV y, .int .i64 k1, .int .i64 k2] w fun e w' => e = .returned (.int .i64 ((filt s.l (k1, k2)).length : Nat)) ∧ w = w' := by
  have hR := Lib.hid R
  have hsl := R.sl
  obtain ⟨ln, hln⟩ : ∃ ln, s.l.length = ln := ⟨_, rfl⟩
  have hln' := Lib.hid hln
  rw [hln] at hsl hB
  clear R hln
  unfold ptrV
  go_enter Try.func26, Try.ntmps26
  go_wp2_with fail
  go_loop [7, 8] (fun n i => ∃ j : Nat, j ≤ ln ∧ i = .int .i64 j ∧ n = .int .i64 ((filt (s.l.take j) (k1, k2)).length : Nat)) (fun _ i => ln - (intOf i).toNat)
  case atStart => exact ⟨0, by omega, rfl, rfl⟩
  case round =>
    obtain ⟨j, hj, rfl, rfl⟩ := hrel
    by_cases hjl : j < ln
    · have hjl' : j < s.l.length := by rw [hln'.out]; exact hjl
      obtain ⟨g, v, rfl, e1, e2, e3, -⟩ := hR.out.at' j hjl'
      have hst := Lib.hid (filt_take s.l (k1, k2) hjl')
      have hle := filt_le (s.l.take j) (k1, k2)
      rw [List.length_take] at hle
      have hle2 : (filt (s.l.take j) (k1, k2)).length ≤ 2000000 := by omega
      clear hle e3
      generalize (s.l[j]'hjl') = x at *
      obtain ⟨⟨x1, x2⟩, xb⟩ := x
      dsimp only at *
      obtain ⟨m, hm⟩ : ∃ m, (filt (s.l.take j) (k1, k2)).length = m := ⟨_, rfl⟩
      have hm' := Lib.hid hm
      rw [hm] at hle2
      rw [hm]
      clear hm hjl'
      by_cases h1 : x1 = k1
      · have hb1 : (x1 == k1) = true := by simpa using h1
        by_cases h2 : x2 = k2
        · have hb2 : (x2 == k2) = true := by simpa using h2
          have hfin : Hid ((filt (s.l.take (j + 1)) (k1, k2)).length = m + 1) := Lib.hid (by rw [hst.out, if_pos (by rw [h1, h2]), List.length_append, hm'.out]; rfl)
          clear h1 h2 hst hm'
          go_wp2_with fail
          go_round
          case rel => exact ⟨j + 1, by omega, by go_num, by rw [hfin.out]; go_num⟩
          case measure => (simp [intOf]; try omega)
        · have hb2 : (x2 == k2) = false := by simpa using h2
          have hfin : Hid ((filt (s.l.take (j + 1)) (k1, k2)).length = m) := Lib.hid (by rw [hst.out, if_neg (fun e => h2 (Prod.mk.inj e).2), List.append_nil, hm'.out])
          clear h1 h2 hst hm'
          go_wp2_with fail
          go_round
          case rel => exact ⟨j + 1, by omega, by go_num, by rw [hfin.out]⟩
          case measure => (simp [intOf]; try omega)
      · have hb1 : (x1 == k1) = false := by simpa using h1
        have hfin : Hid ((filt (s.l.take (j + 1)) (k1, k2)).length = m) := Lib.hid (by rw [hst.out, if_neg (fun e => h1 (Prod.mk.inj e).1), List.append_nil, hm'.out])
        clear h1 hst hm'
        go_wp2_with fail
        go_round
        case rel => exact ⟨j + 1, by omega, by go_num, by rw [hfin.out]⟩
        case measure => (simp [intOf]; try omega)
    · obtain rfl : j = ln := by omega
      have hfin : Hid (filt (s.l.take j) (k1, k2) = filt s.l (k1, k2)) := Lib.hid (by rw [List.take_of_length_le (by rw [hln'.out]; exact Nat.le_refl _)])
      rw [hfin.out]
      go_wp2_with fail
      go_ret
      exact ⟨rfl, rfl⟩
end
end Go.Proofs.Ytnkahibddhchlaa
