/- A lane: its pieces; the walks of has, put, out. -/
import Derived.Test.YtnkahibddhchlaaDelete
import Derived.Test.YtnkahibddhchlaaKMap
import Derived.Test.YtnkahibddhchlaaReg
import Derived.Test.YtnkahibddhchlaaOwnMore
namespace Go.Proofs.Ytnkahibddhchlaa
open Go.RowKit
set_option linter.unusedVariables false

/-- A datagram: the slice, and its bytes. -/
structure Gr where
  v : SlT
  bs : List Int
def grP (g : Gr) : Pc := .own 5 1 (slV g.v) g.bs.length (bv g.bs)
def grVs (gs : List Gr) : List Value := gs.map fun g => slV g.v
/-- A lane: its way, where it lies, its slice, what it holds. -/
structure Ln where
  key : Ky
  q : Nat
  h : Value
  gs : List Gr
def lnB (q : Nat) (h : Value) : Pc := .blk q [h] 75
def lnH (h : Value) (gs : List Gr) : Pc := .own 29 1 h gs.length (grVs gs)
def lnP (x : Ln) : List Pc := lnB x.q x.h :: lnH x.h x.gs :: x.gs.map grP

theorem grVs_length (gs : List Gr) : (grVs gs).length = gs.length := by simp [grVs]
theorem elemS : ElemK Try.prog 22 29 1 (.slice none 0 0) 24 := ⟨by kernel_rfl, by kernel_rfl, rfl, by decide⟩

theorem gr_slice {w : World} {L L' : List Pc} {g : Gr} (H : SL w L) (hp : Pull L (grP g) L') : ∃ a c, g.v = (a, g.bs.length, c) ∧ (a = none → c = 0) ∧ RdB w a g.bs ∧ c ≤ maxLen := by
  obtain ⟨v, bs⟩ := g
  have h : OwnK w 0 5 1 (slV v) bs.length (bv bs) := H.all _ hp.mem
  obtain ⟨a, c, h1, h2, h3, h4, h5, h6⟩ := h.slice
  obtain ⟨a', n', c'⟩ := v
  simp only [slV, Value.slice.injEq] at h1
  obtain ⟨rfl, rfl, rfl⟩ := h1
  refine ⟨a', c', rfl, h4, RdB.of_rd ?_, h3⟩
  rw [bv_length]
  simpa using h5

theorem ln_slice {w : World} {L L' : List Pc} {h : Value} {gs : List Gr} (H : SL w L) (hp : Pull L (lnH h gs) L') : ∃ a c, h = .slice a gs.length c ∧ (a = none → c = 0) ∧ (a = none → gs = []) ∧ gs.length ≤ c ∧ c ≤ maxLen ∧ (∀ x, a = some x → ∃ g, x = ⟨g, 0, none⟩) := by
  have h1 : OwnK w 0 29 1 h gs.length (grVs gs) := H.all _ hp.mem
  rcases h1.form with ⟨rfl, e, _⟩ | ⟨g, cap, rfl, h2, h3, h4, h5, h6, h7, h8⟩
  · have : gs = [] := List.eq_nil_of_length_eq_zero e
    subst this
    exact ⟨none, 0, rfl, fun _ => rfl, fun _ => rfl, Nat.le_refl _, Nat.zero_le _, fun x hx => (by cases hx)⟩
  · exact ⟨some ⟨g, 0, none⟩, cap, rfl, fun h => (by cases h), fun h => (by cases h), h4, h5, fun x hx => ⟨g, (by cases hx; rfl)⟩⟩

theorem ln_cell {w : World} {L L' : List Pc} {h : Value} {gs : List Gr} {g n c : Nat} (H : SL w L) (hp : Pull L (lnH h gs) L') (hh : h = .slice (some ⟨g, 0, none⟩) n c) {i : Nat} (hi : i < gs.length) :
    w.cell? ⟨g, i, none⟩ = some (slV (gs[i]'hi).v) := by
  have h1 : OwnK w 0 29 1 h gs.length (grVs gs) := H.all _ hp.mem
  rcases h1.form with ⟨e, _⟩ | ⟨g', cap, e, h2, h3, h4, h5, h6, h7, h8⟩
  · rw [e] at hh; cases hh
  · rw [e] at hh; cases hh
    rw [h7 i (by omega)]
    simp [grVs, List.getD_eq_getElem?_getD, hi]

theorem eraseIdx_map' {α β : Type} (f : α → β) (l : List α) (i : Nat) : (l.map f).eraseIdx i = (l.eraseIdx i).map f := by
  rw [List.eraseIdx_eq_take_drop_succ, List.eraseIdx_eq_take_drop_succ]; simp

theorem has_nil (at' : Int) (w : World) :
    Calls Try.prog 48 #[.pointer none, .int .i64 at'] w fun e w' => e = .returned (.bool false) ∧ w = w' := by
  go_enter Try.func48, Try.ntmps48
  go_wp2_with fail
  go_ret
  exact ⟨rfl, rfl⟩

theorem has_c (q n c : Nat) (a : Option Addr) (at' : Int) (w : World) (C : w.cell? ⟨q, 0, none⟩ = some (.slice a n c)) :
    Calls Try.prog 48 #[ptrV q, .int .i64 at'] w fun e w' => e = .returned (.bool (decide (0 ≤ at' ∧ at' < n))) ∧ w = w' := by
  obtain ⟨r, hr⟩ : ∃ r, decide (0 ≤ at' ∧ at' < (n : Int)) = r := ⟨_, rfl⟩
  rw [hr]
  have hr' := Lib.hid hr
  clear hr
  unfold ptrV
  go_enter Try.func48, Try.ntmps48
  by_cases h0 : 0 ≤ at'
  · go_wp2_with fail
    go_ret
    refine ⟨ret_b ?_, rfl⟩
    rw [← hr'.out]
    simp [h0]
  · go_wp2_with fail
    go_ret
    refine ⟨ret_b ?_, rfl⟩
    rw [← hr'.out]
    simp; omega

theorem put_no {q n c : Nat} {a : Option Addr} (v : SlT) (room : Nat) {w : World} (C : w.cell? ⟨q, 0, none⟩ = some (.slice a n c)) (h : room ≤ n) :
    Calls Try.prog 47 #[ptrV q, slV v, .int .i64 room] w fun e w' => e = .returned (.bool false) ∧ w = w' := by
  unfold ptrV slV
  go_enter Try.func47, Try.ntmps47
  go_wp2_with fail
  go_ret
  exact ⟨rfl, rfl⟩

theorem put_yes {key : Ky} {q : Nat} {h : Value} {gs : List Gr} (g : Gr) (room : Nat) {w : World} {L : List Pc} (H : SL w (lnB q h :: lnH h gs :: L)) (hn : gs.length < room) (hr : room ≤ 1000000) :
    Calls Try.prog 47 #[ptrV q, slV g.v, .int .i64 room] w fun e w' => e = .returned (.bool true) ∧ ∃ h', SL w' (lnB q h' :: lnH h' (gs ++ [g]) :: L) := by
  obtain ⟨a, c, rfl, h1, h2, h3, h4, -⟩ := ln_slice H (.there (.here _ _))
  obtain ⟨n, hn'⟩ : ∃ n, gs.length = n := ⟨_, rfl⟩
  have hn2 := Lib.hid hn'
  have H0 : SL w (.blk q [.slice a n c] 75 :: .own 29 1 (.slice a n c) n (grVs gs) :: L) := by
    unfold lnB lnH at H; rw [hn'] at H; exact H
  have hH := Lib.hid H0
  rw [hn'] at hn
  have c0 := H0.cell (o := 0) (.here _ _) rfl
  have f0 := H0.free (.here _ _) 0
  clear H H0 h1 h2 h3 h4 hn'
  obtain ⟨v, bs⟩ := g
  obtain ⟨va, vn, vc⟩ := v
  unfold ptrV slV
  dsimp only
  go_enter Try.func47, Try.ntmps47
  go_wp2_with (
    at_builtin
    refine sl_app (hH.out.alloc [.slice va vn vc] 29) rfl _ _ _ rfl elemS _ rfl (.there (.there (.here _ _))) [.slice va vn vc] rfl rfl (rd_newK _ _ _) (by simp [Value.oneCell']) (by simp only [maxLen]; omega) (by omega) (fun h => by cases h) ?_
    intro v' w3 H3 hnil
    clear hnil c0 f0
    obtain ⟨a', c', rfl, -⟩ := OwnK.slice H3.head
    have H4 := H3.re (.step (.there (.there (.here _ _))) (.step (.here _ _) (.drop (.same _))))
    clear H3
    have c0 := H4.cell (o := 0) (.here _ _) rfl
    have f0 := H4.free (.here _ _) 0
    have H5 := H4.setCell 0 (.slice a' (n + 1) c')
    clear H4)
  go_ret
  refine ⟨rfl, .slice a' (n + 1) c', ?_⟩
  unfold lnB lnH grVs
  simp only [List.length_append, List.length_singleton, hn2.out, List.map_append, List.map_cons, List.map_nil]
  exact H5

theorem out_c {q : Nat} {h : Value} {gs : List Gr} {w : World} {L : List Pc} (H : SL w (lnB q h :: lnH h gs :: L)) {i : Nat} (hi : i < gs.length) :
    Calls Try.prog 36 #[ptrV q, .int .i64 i] w fun e w' => e = .returned (slV (gs[i]'hi).v) ∧ ∃ h', SL w' (lnB q h' :: lnH h' (gs.eraseIdx i) :: L) := by
  obtain ⟨a, c, rfl, h1, h2, h3, h4, h5⟩ := ln_slice H (.there (.here _ _))
  have ha : a ≠ none := fun h => by rw [h2 h] at hi; simp at hi
  obtain ⟨x, rfl⟩ := Option.ne_none_iff_exists'.1 ha
  obtain ⟨g, rfl⟩ := h5 x rfl
  have hc := ln_cell H (.there (.here _ _)) rfl hi
  have H' : SL w (.own 29 1 (.slice (some ⟨g, 0, none⟩) gs.length c) gs.length ((gs.map Gr.v).map slV) :: lnB q (.slice (some ⟨g, 0, none⟩) gs.length c) :: L) := by
    have := H.re (.step (.there (.here _ _)) (.step (.here _ _) (.same _)))
    unfold lnH grVs at this
    rw [List.map_map]
    exact this
  have hd := Lib.hid (delete_c H' hi)
  have c0 := H.cell (b := q) (o := 0) (.here _ _) rfl
  have hpos : 0 < gs.length := by omega
  have hel : (gs.eraseIdx i).length = gs.length - 1 := by rw [List.length_eraseIdx_of_lt hi]
  have hel' := Lib.hid hel
  obtain ⟨V, hV⟩ : ∃ V, (gs[i]'hi).v = V := ⟨_, rfl⟩
  rw [hV] at hc ⊢
  obtain ⟨n, hn⟩ : ∃ n, gs.length = n := ⟨_, rfl⟩
  have hcap : n ≤ c := by omega
  have hcm : c ≤ 9223372036854775807 := by simpa [maxLen] using h4
  rw [hn] at c0 hi hpos hel hd hel'
  clear H H' h1 h2 h3 h4 h5 ha hV hel
  obtain ⟨va, vn, vc⟩ := V
  unfold slV at hc
  unfold ptrV slV
  dsimp only at hc ⊢
  go_enter Try.func36, Try.ntmps36
  go_wp2_with fail
  refine hd.out.mono ?_
  rintro e w' ⟨rfl, H2⟩
  clear hd c0 hc
  have H3 := H2.re (.step (.there (.here _ _)) (.step (.here _ _) (.same _)))
  clear H2
  unfold lnB at H3
  have c0 := H3.cell (o := 0) (.here _ _) rfl
  have f0 := H3.free (.here _ _) 0
  have H5 := Lib.hid (H3.setCell 0 (.slice (some ⟨g, 0, none⟩) (n - 1) c))
  clear H3
  go_wp2_with fail
  go_ret
  refine ⟨rfl, .slice (some ⟨g, 0, none⟩) (n - 1) c, ?_⟩
  unfold lnB lnH grVs
  rw [hel'.out]
  have := H5.out
  rw [show (gs.map Gr.v).eraseIdx i = (gs.eraseIdx i).map Gr.v from eraseIdx_map' Gr.v gs i, List.map_map] at this
  exact this
end Go.Proofs.Ytnkahibddhchlaa
