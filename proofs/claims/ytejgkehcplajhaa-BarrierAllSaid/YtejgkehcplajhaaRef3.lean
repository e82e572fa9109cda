/- The walk of the reference's Passed. -/
import Derived.Test.YtejgkehcplajhaaRef2
import Derived.Test.YtejgkehcplajhaaBar6
namespace Go.Proofs.Ytejgkehcplajhaa
open Go.RowKit
set_option linter.unusedVariables false

/-- One of the rows, and the rows when it is put back. -/
theorem rowsP_pull (N : Nat) : ∀ (vs : List Value) (ls : List (List Bool)) (R : List Pc) (i : Nat) (h : i < vs.length) (h' : i < ls.length),
    ∃ R', Pull (rowsP N vs ls ++ R) (rowPc N (vs[i]'h) (ls[i]'h')) R' ∧ ∀ l', (rowPc N (vs[i]'h) l' :: R').Perm (rowsP N vs (ls.set i l') ++ R)
  | v :: vs, l :: ls, R, 0, _, _ => ⟨rowsP N vs ls ++ R, .here _ _, fun l' => .refl _⟩
  | v :: vs, l :: ls, R, i + 1, h, h' => by
    obtain ⟨R', h1, h2⟩ := rowsP_pull N vs ls R i (by simpa using h) (by simpa using h')
    refine ⟨rowPc N v l :: R', .there h1, fun l' => ?_⟩
    exact (List.Perm.swap _ _ _).trans ((h2 l').cons _)
  | [], _, _, i, h, _ => by simp at h
  | _ :: _, [], _, i, _, h' => by simp at h'

theorem own_store {w : World} {L : List Pc} {e : TypeId} {g n c : Nat} {xs : List Value} (H : SL w (.own e 1 (.slice (some ⟨g, 0, none⟩) n c) n xs :: L)) (i : Nat) (u : Value) :
    SL (w.setCell ⟨g, i, none⟩ u) (.own e 1 (.slice (some ⟨g, 0, none⟩) n c) n (xs.set i u) :: L) := by
  have h : OwnK w 0 e 1 (.slice (some ⟨g, 0, none⟩) n c) n xs := H.head
  refine H.upd (Kp.setCell (S := (Pc.own e 1 (.slice (some ⟨g, 0, none⟩) n c) n xs).foot) (Kp.refl _ w) (p := ⟨g, i, none⟩) (.inl (show some g = some g from rfl)) u) ?_ fun x hx => .inl hx
  obtain ⟨hl, h⟩ := h
  rcases h with ⟨h, _⟩ | ⟨g', cap', cur, hv, hb, hg, hn, hm, hs, ht⟩
  · cases h
  · cases hv
    refine ⟨by simpa using hl, .inr ⟨g, c, cur.setIfInBounds i u, rfl, hb, blk_setCell hg i u, hn, hm, by simpa using hs, ?_⟩⟩
    rw [Array.toList_setIfInBounds, List.take_set, ht]

theorem rows_set {fr f N K : Nat} {ps : Int → Bool} {x : Int} {ms : List Int} {i : Nat} (hi : i < ms.length) (hx : ms[i]'hi = x) (hd : ms.Nodup) (hK : K ≤ f) (hfr : fr ≤ K) :
    (ms.map (rowOf fr f N ps)).set i ((rowOf fr f N ps x).set K true) = ms.map (rowOf fr f N (if K < f then ps else fun y => ps y || y == x)) := by
  apply List.ext_getElem (by simp)
  intro j h1 h2
  simp only [List.length_map] at h2
  rw [List.getElem_set, List.getElem_map]
  by_cases e : i = j
  · subst e
    rw [if_pos rfl, List.getElem_map, hx]
    apply List.ext_getElem (by simp [rowOf])
    intro g g1 g2
    simp only [rowOf, List.length_map, List.length_range] at g2
    rw [List.getElem_set]
    simp only [rowOf, List.getElem_map, List.getElem_range]
    by_cases hg : K = g
    · subst hg
      rw [if_pos rfl]
      by_cases hlt : K < f
      · simp [metB, hlt, hfr]
      · have : K = f := by omega
        simp [metB, this]
    · rw [if_neg hg]
      by_cases hlt : K < f
      · rw [if_pos hlt]
      · have : ¬ g = f := by omega
        simp [metB, this]
  · rw [if_neg e, List.getElem_map]
    have hne : ms[j] ≠ x := fun h => e ((List.getElem_inj hd).1 (hx.trans h.symm))
    split
    · rfl
    · unfold rowOf
      apply List.map_congr_left
      intro g hg
      have hb : (ms[j] == x) = false := by simpa using hne
      simp [metB, hb]

theorem rows_next {fr f N : Nat} {ps : Int → Bool} {ms : List Int} (hall : ∀ x ∈ ms, ps x = true) (hfr : fr ≤ f) :
    ms.map (rowOf fr f N ps) = ms.map (rowOf fr (f + 1) N fun _ => false) := by
  apply List.map_congr_left
  intro x hx
  unfold rowOf
  apply List.map_congr_left
  intro g _
  rw [Bool.eq_iff_iff]
  simp only [metB, hall x hx, Bool.and_true, Bool.and_false, Bool.or_false, Bool.or_eq_true, Bool.and_eq_true, decide_eq_true_eq]
  omega

/-- As 'passM', of a number of the frame under way. -/
def passN (fr f N : Nat) (ms : List Int) (ps : Int → Bool) (x k : Int) : Bool × Int × Nat × (Int → Bool) :=
  if x ∉ ms ∨ k < fr ∨ (f : Int) < k ∨ k = N then (false, 250, f, ps)
  else if k < f then (false, 0, f, ps)
  else if missL ms (fun y => ps y || y == x) = [] then (true, 0, f + 1, fun _ => false)
  else (false, 0, f, fun y => ps y || y == x)
theorem passM_N (fr f N : Nat) (ms : List Int) (ps : Int → Bool) (x k : Int) :
    passM fr f N ms ps x k = ((passN fr f N ms ps x k).1, (passN fr f N ms ps x k).2.1, ((passN fr f N ms ps x k).2.2.1 : Int), (passN fr f N ms ps x k).2.2.2) := by
  unfold passM passN
  split
  · rfl
  · split
    · rfl
    · split <;> rfl

theorem missL_nil {ms : List Int} {ps : Int → Bool} : missL ms ps = [] ↔ ∀ x ∈ ms, ps x = true := by
  simp [missL, List.filter_eq_nil_iff]
theorem missL_some {ms : List Int} {ps : Int → Bool} (h : missL ms ps ≠ []) : ∃ x ∈ ms, ps x = false := by
  by_cases e : ∀ x ∈ ms, ps x = true
  · exact absurd (missL_nil.2 e) h
  · simp only [Classical.not_forall, Bool.not_eq_true] at e
    obtain ⟨x, hx, h⟩ := e
    exact ⟨x, hx, h⟩

/-- What holds of a barrier in use. -/
structure BOk (fr f N : Nat) (ms : List Int) (ps : Int → Bool) : Prop where
  nd : ms.Nodup
  ne : ms ≠ []
  len : ms.length ≤ 100
  bound : N ≤ 1000
  lo : fr ≤ f
  hi : f ≤ N
  some : f < N → ∃ x ∈ ms, ps x = false
  last : f = N → ∀ x ∈ ms, ps x = false

theorem BOk.step {fr f N : Nat} {ms : List Int} {ps : Int → Bool} (h : BOk fr f N ms ps) (x k : Int) : BOk fr (passN fr f N ms ps x k).2.2.1 N ms (passN fr f N ms ps x k).2.2.2 := by
  unfold passN
  split
  · exact h
  · rename_i h1
    split
    · exact h
    · rename_i h2
      have hfN : f < N := by
        have := h.hi; omega
      split
      · rename_i h3
        obtain ⟨y, hy⟩ := List.exists_mem_of_ne_nil _ h.ne
        exact ⟨h.nd, h.ne, h.len, h.bound, by have := h.lo; simp only; omega, by simp only; omega, fun _ => ⟨y, hy, rfl⟩, fun _ _ _ => rfl⟩
      · rename_i h3
        exact ⟨h.nd, h.ne, h.len, h.bound, h.lo, h.hi, fun _ => missL_some h3, fun e => by simp only at e; omega⟩

def RefPost (q cm ch fr N : Nat) (am ah : Option Addr) (vs : List Value) (ms : List Int) (L : List Pc) (r : Bool × Int × Nat × (Int → Bool)) (e : Ending) (w' : World) : Prop :=
  e = .returned (.tuple #[.bool r.1, .int .i64 r.2.1]) ∧ SL w' (refL q cm ch fr r.2.2.1 N am ah vs ms r.2.2.2 ++ L)

set_option maxHeartbeats 1000000 in
theorem refPassed_c (q cm ch fr f N : Nat) (am ah : Option Addr) (vs : List Value) (ms : List Int) (ps : Int → Bool) (x k : Int) (w : World) {L : List Pc} (H : SL w (refL q cm ch fr f N am ah vs ms ps ++ L)) (ok : BOk fr f N ms ps) :
    Calls Try.prog 17 #[.pointer (some ⟨q, 0, none⟩), .int .i64 x, .int .i64 k] w (RefPost q cm ch fr N am ah vs ms L (passN fr f N ms ps x k)) := by
  have hF := Lib.hid (refFrame_c q cm ch fr f N am ah vs ms ps w H ok.len ok.bound ok.lo ok.hi ok.some)
  have hA := Lib.hid (refAt_c q cm ch fr f N am ah vs ms ps x w H ok.len)
  have hH := Lib.hid H
  have hok := Lib.hid ok
  obtain ⟨c0, c1, c2, c3, -⟩ := ref_cells H
  have hrow := Lib.hid (fun i hi => ref_row H (i := i) hi)
  obtain ⟨r, hr⟩ : ∃ r, passN fr f N ms ps x k = r := ⟨_, rfl⟩
  have hr' := Lib.hid hr
  obtain ⟨n, hn⟩ : ∃ n, ms.length = n := ⟨_, rfl⟩
  have hn' := Lib.hid hn
  rw [hn] at c0 c3
  have hNb := ok.bound
  have hfb := ok.hi
  have hlb := ok.lo
  have hnb : n ≤ 100 := by rw [← hn]; exact ok.len
  rw [hr]
  clear H ok hn
  unfold passN at hr
  have bad : r = (false, 250, f, ps) → RefPost q cm ch fr N am ah vs ms L r (.returned (.tuple #[.bool false, .int .i64 250])) w := fun e => by rw [e]; exact ⟨rfl, hH.out⟩
  have bad' := Lib.hid bad
  clear bad
  by_cases hx : x ∈ ms
  · obtain ⟨i, hi, e1, e2⟩ := idxI_lt hx
    rw [e1] at hA
    have hin : i < n := by rw [← hn'.out]; exact hi
    by_cases g1 : k < fr ∨ (f : Int) < k ∨ k = N
    · rw [if_pos (.inr g1)] at hr
      have hrr := Lib.hid hr.symm
      clear hr hrow hx e1 e2 hi
      have gg : k < fr ∨ ((fr : Int) ≤ k ∧ (f : Int) < k) ∨ ((fr : Int) ≤ k ∧ k ≤ f ∧ (N : Int) ≤ k) := by omega
      clear g1
      go_enter Try.func17, Try.ntmps17
      go_wp2_with fail
      refine hF.out.mono ?_
      rintro e w' ⟨rfl, rfl⟩
      go_wp2_with fail
      refine hA.out.mono ?_
      rintro e w' ⟨rfl, rfl⟩
      rcases gg with gg | ⟨gg, g2⟩ | ⟨gg, g2, g3⟩
      all_goals
        go_wp2_with fail
        go_ret2
        exact bad'.out hrr.out
    · rw [if_neg (by simp only [hx, not_true_eq_false, false_or]; exact g1)] at hr
      obtain ⟨K, rfl⟩ : ∃ K : Nat, k = K := ⟨k.toNat, by omega⟩
      have q1 : fr ≤ K := by omega
      have q2 : K ≤ f := by omega
      have q3 : K < N := by omega
      clear g1
      have hset := Lib.hid (rows_set (N := N) (ps := ps) hi e2 hok.out.nd q2 q1)
      obtain ⟨ps', hps⟩ : ∃ ps', (if K < f then ps else fun y => ps y || y == x) = ps' := ⟨_, rfl⟩
      rw [hps] at hset
      obtain ⟨bh, oh, ar, cr, rfl, d1, d0, d2⟩ := hrow.out i hi
      rw [e2] at d2
      obtain ⟨br, or, rfl, d3⟩ := d2 K q3
      have hvl : vs.length = ms.length := by have := (hH.out.ownOf (.there (.there (.here _ _)))).1; omega
      have hiv : i < vs.length := by omega
      obtain ⟨R', hp1, hp2⟩ := rowsP_pull N vs (ms.map (rowOf fr f N ps)) L i hiv (by simpa using hi)
      have hp3 := hH.out.pull (.there (.there (.there hp1)))
      have hvi : vs[i]'hiv = .slice (some ⟨br, or, none⟩) N cr := by
        have h1 := (hH.out.ownOf (.there (.there (.here _ _)))).rd.2.1
        rw [Nat.mul_one] at h1
        obtain ⟨b2, o2, e3, h2⟩ := h1 i hi
        cases e3
        have h2 : w.cell? ⟨bh, oh + i, none⟩ = some (vs.getD i undef) := h2
        rw [d1] at h2
        have := Option.some.inj h2
        simpa [hiv] using this.symm
      rw [hvi, List.getElem_map, e2] at hp3
      have ho : or = 0 := by
        rcases OwnK.form (show OwnK w 0 4 1 (.slice (some ⟨br, or, none⟩) N cr) N _ from hp3.head) with ⟨h, _⟩ | ⟨g, cap, h, _⟩
        · cases h
        · cases h; rfl
      subst ho
      have hfz : w.frozen? ⟨br, 0 + K, none⟩ = false := by
        rcases OwnK.form (show OwnK w 0 4 1 (.slice (some ⟨br, 0, none⟩) N cr) N _ from hp3.head) with ⟨h, _⟩ | ⟨g, cap, h, _, _, _, _, _, _, h7⟩
        · cases h
        · cases h; exact h7 _
      rw [Nat.zero_add] at d3 hfz
      have H5 : SL (w.setCell ⟨br, K, none⟩ (.bool true)) (refL q cm ch fr f N am (some ⟨bh, oh, none⟩) vs ms ps' ++ L) := by
        have h1 := own_store (show SL w (.own 4 1 (.slice (some ⟨br, 0, none⟩) N cr) N (bvs (rowOf fr f N ps x)) :: _) from hp3) K (.bool true)
        have hl2 := hp2 ((rowOf fr f N ps x).set K true)
        rw [hset.out] at hl2
        refine h1.perm ?_
        have hb : (bvs (rowOf fr f N ps x)).set K (.bool true) = bvs ((rowOf fr f N ps x).set K true) := by simp [bvs, List.map_set]
        rw [hb, ← hvi]
        refine List.Perm.trans ?_ (((hl2.cons _).cons _).cons _)
        exact (List.Perm.swap _ _ _).trans (((List.Perm.swap _ _ _).trans ((List.Perm.swap _ _ _).cons _)).cons _)
      by_cases hall : K = f ∧ ∀ y ∈ ms, ps' y = true
      · obtain ⟨rfl, hall⟩ := hall
        rw [if_neg (by omega)] at hps
        rw [if_neg (by omega), hps, if_pos (missL_nil.2 hall)] at hr
        unfold refL at H5
        rw [rows_next hall hlb] at H5
        have H6 : SL (w.setCell ⟨br, K, none⟩ (.bool true)) (refL q cm ch fr (K + 1) N am (some ⟨bh, oh, none⟩) vs ms (fun _ => false) ++ L) := H5
        obtain ⟨y, hy⟩ := List.exists_mem_of_ne_nil _ hok.out.ne
        have hF2 := Lib.hid (refFrame_c q cm ch fr (K + 1) N am (some ⟨bh, oh, none⟩) vs ms (fun _ => false) _ H6 hok.out.len hok.out.bound (by omega) (by omega) (fun _ => ⟨y, hy, rfl⟩))
        have hrr := Lib.hid hr.symm
        have H6' := Lib.hid H6
        clear H5 H6 hr hset hps hp1 hp2 hp3 hvi hvl hiv hall d2 hrow hx e1 e2 hi
        go_enter Try.func17, Try.ntmps17
        go_wp2_with fail
        refine hF.out.mono ?_
        rintro e w' ⟨rfl, rfl⟩
        go_wp2_with fail
        refine hA.out.mono ?_
        rintro e w' ⟨rfl, rfl⟩
        go_wp2_with fail
        refine hF2.out.mono ?_
        rintro e w' ⟨rfl, rfl⟩
        have hcast : (((K + 1 : Nat) : Int)) = (K : Int) + 1 := by omega
        rw [hcast]
        have hlt1 : decide ((K : Int) < (K : Int) + 1) = true := by simp; omega
        go_wp2_with fail
        go_ret2
        rw [hrr.out]
        exact ⟨rfl, H6'.out⟩
      · have hr2 : r = (false, 0, f, ps') := by
          rw [← hr]
          by_cases hlt : K < f
          · rw [if_pos (by omega), ← hps, if_pos hlt]
          · rw [if_neg hlt] at hps
            rw [if_neg (by omega), hps, if_neg]
            intro hn
            exact hall ⟨by omega, missL_nil.1 hn⟩
        have hsm : f < N → ∃ y ∈ ms, ps' y = false := by
          intro h
          by_cases hlt : K < f
          · rw [if_pos hlt] at hps; rw [← hps]; exact hok.out.some h
          · by_cases e : ∀ y ∈ ms, ps' y = true
            · exact absurd ⟨by omega, e⟩ hall
            · simp only [Classical.not_forall, Bool.not_eq_true] at e
              obtain ⟨y, hy, h⟩ := e
              exact ⟨y, hy, h⟩
        have hF2 := Lib.hid (refFrame_c q cm ch fr f N am (some ⟨bh, oh, none⟩) vs ms ps' _ H5 hok.out.len hok.out.bound hlb hfb hsm)
        have hrr := Lib.hid hr2
        have H6' := Lib.hid H5
        clear H5 hr hr2 hset hps hp1 hp2 hp3 hvi hvl hiv hall d2 hrow hx e1 e2 hi hsm
        go_enter Try.func17, Try.ntmps17
        go_wp2_with fail
        refine hF.out.mono ?_
        rintro e w' ⟨rfl, rfl⟩
        go_wp2_with fail
        refine hA.out.mono ?_
        rintro e w' ⟨rfl, rfl⟩
        go_wp2_with fail
        refine hF2.out.mono ?_
        rintro e w' ⟨rfl, rfl⟩
        have hff : decide ((f : Int) > (f : Int)) = false := by simp
        go_wp2_with fail
        go_ret2
        rw [hrr.out]
        exact ⟨rfl, H6'.out⟩
  · rw [if_pos (.inl hx)] at hr
    rw [idxI_no hx] at hA
    have hrr := Lib.hid hr.symm
    clear hr hrow hx
    go_enter Try.func17, Try.ntmps17
    go_wp2_with fail
    refine hF.out.mono ?_
    rintro e w' ⟨rfl, rfl⟩
    go_wp2_with fail
    refine hA.out.mono ?_
    rintro e w' ⟨rfl, rfl⟩
    go_wp2_with fail
    go_ret2
    exact bad'.out hrr.out
end Go.Proofs.Ytejgkehcplajhaa
