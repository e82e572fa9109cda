/- The walks of Send, Double, Peek, Flip. -/
import Derived.Test.YtnkahibddhchlaaOps
import Derived.StillTailTactics
import Derived.Deep.CutBlock
import Derived.Deep.CutRange
namespace Go.Proofs.Ytnkahibddhchlaa
open Go.RowKit
set_option linter.unusedVariables false

section
variable {p m : Nat} {n room : Nat} {t : Tf} {xs : List Ln} {L : List Pc} {w : World}
/-- What lies at a place of a way. -/
theorem net_gram (H : SL w (lnsP xs ++ L)) {i j : Nat} (hi : i < xs.length) (hj : j < (xs[i]'hi).gs.length) :
    ∃ g n c a' c', (xs[i]'hi).h = .slice (some ⟨g, 0, none⟩) n c ∧ j < n ∧ w.cell? ⟨(xs[i]'hi).q, 0, none⟩ = some (.slice (some ⟨g, 0, none⟩) n c) ∧ w.cell? ⟨g, j, none⟩ = some (.slice a' ((xs[i]'hi).gs[j]'hj).bs.length c') ∧ RdB w a' ((xs[i]'hi).gs[j]'hj).bs ∧ (a' = none → c' = 0) ∧
      ((xs[i]'hi).gs[j]'hj).v = (a', ((xs[i]'hi).gs[j]'hj).bs.length, c') := by
  have hS : SL w (lnB (xs[i]'hi).q (xs[i]'hi).h :: lnH (xs[i]'hi).h (xs[i]'hi).gs :: ((xs[i]'hi).gs.map grP ++ (lnsP (xs.eraseIdx i) ++ L))) := H.perm (by
    have := (lns_at xs i hi).append_right L
    rw [List.append_assoc] at this
    exact this)
  obtain ⟨a, c, h0, h1, h2, h3, h4, h5⟩ := ln_slice hS (.there (.here _ _))
  have ha : a ≠ none := fun h => by rw [h2 h] at hj; simp at hj
  obtain ⟨x, rfl⟩ := Option.ne_none_iff_exists'.1 ha
  obtain ⟨g, rfl⟩ := h5 x rfl
  have hc := ln_cell hS (.there (.here _ _)) h0 hj
  have hq := hS.cell (b := (xs[i]'hi).q) (o := 0) (.here _ _) rfl
  have hG : SL w (grP ((xs[i]'hi).gs[j]'hj) :: (((xs[i]'hi).gs.eraseIdx j).map grP ++ (lnsP (xs.eraseIdx i) ++ L))) := hS.tail.tail.perm (by
    have := (gs_pull (xs[i]'hi).gs j hj).append_right (lnsP (xs.eraseIdx i) ++ L)
    exact this)
  obtain ⟨a', c', e, e2, e3, e4⟩ := gr_slice hG (.here _ _)
  refine ⟨g, _, c, a', c', h0, hj, ?_, ?_, e3, e2, e⟩
  · rw [hq, h0]
  · rw [hc, e]; rfl
end

section
variable {p : Nat} {s : NSt} {L : List Pc} {w : World}

theorem peek_yes (H : NAt p s L w) {a b j : Int} (ha : okI a) (hb : okI b) (h : s.has a b j = true) :
    Calls Try.prog 13 #[ptrV p, .int .i64 a, .int .i64 b, .int .i64 j] w fun e w' => ∃ v, e = .returned (.tuple #[slV v, .bool true]) ∧ NAt p s (grP ⟨v, s.the a b j⟩ :: L) w' := by
  obtain ⟨m, xs, H, ok, hF⟩ := H
  obtain ⟨n, room, t, F⟩ := s
  dsimp only at H ok hF
  subst hF
  obtain ⟨i, hi, k, hk, hkey, rfl, hl⟩ := has_lane ok (of_decide_eq_true h)
  have hf := Lib.hid (find_yes H ok ha hb hi hkey hk)
  obtain ⟨g, n0, c, a', c', h1, h2, h3, h4, h5, h6, h7⟩ := net_gram H.tail.tail hi hk
  have hthe : Hid (NSt.the ⟨n, room, t, look xs⟩ a b k = ((xs[i]'hi).gs[k]'hk).bs) := Lib.hid (by unfold NSt.the; dsimp only; rw [hl]; simp [List.getD_eq_getElem?_getD, hk])
  have hlen := ok.byte _ (List.getElem_mem hi) _ (List.getElem_mem hk)
  have hc := Lib.hid (clone_c ((xs[i]'hi).gs[k]'hk).bs a' c' w H (by omega) h5 h6)
  generalize NSt.the ⟨n, room, t, look xs⟩ a b k = B at *
  generalize ((xs[i]'hi).gs[k]'hk).bs = bs at *
  obtain ⟨len, hlen'⟩ : ∃ len, bs.length = len := ⟨_, rfl⟩
  have hlen2 := Lib.hid hlen'
  rw [hlen'] at h4 hc
  generalize (xs[i]'hi).q = q at *
  clear H h1 h5 h6 h7 hl h hk hlen hlen'
  unfold ptrV slV at *
  go_enter Try.func13, Try.ntmps13
  go_wp2_with fail
  refine hf.out.mono ?_
  rintro e w' ⟨rfl, rfl⟩
  go_wp2_with fail
  refine hc.out.mono ?_
  rintro e w' ⟨a2, c2, rfl, H2⟩
  clear hc hf
  go_wp2_with fail
  go_ret2
  refine ⟨(a2, len, c2), rfl, m, xs, ?_, ok, rfl⟩
  have h8 : SL w' (grP ⟨(a2, len, c2), bs⟩ :: (netP p m n room t xs ++ L)) := by unfold grP slV; rw [hlen2.out]; exact H2
  rw [hthe.out]
  exact h8.perm List.perm_middle.symm

theorem peek_no (H : NAt p s L w) {a b j : Int} (ha : okI a) (hb : okI b) (h : s.has a b j = false) :
    Calls Try.prog 13 #[ptrV p, .int .i64 a, .int .i64 b, .int .i64 j] w fun e w' => e = .returned (.tuple #[.slice none 0 0, .bool false]) ∧ w = w' := by
  obtain ⟨m, xs, H, ok, hF⟩ := H
  obtain ⟨n, room, t, F⟩ := s
  dsimp only at H ok hF
  subst hF
  have hf := Lib.hid (find_no H ok ha hb (of_decide_eq_false h))
  clear H h
  unfold ptrV at *
  go_enter Try.func13, Try.ntmps13
  go_wp2_with fail
  refine hf.out.mono ?_
  rintro e w' ⟨rfl, rfl⟩
  go_wp2_with fail
  go_ret2
  exact ⟨rfl, rfl⟩

theorem double_no (H : NAt p s L w) {a b j : Int} (ha : okI a) (hb : okI b) (h : s.has a b j = false) :
    Calls Try.prog 15 #[ptrV p, .int .i64 a, .int .i64 b, .int .i64 j] w fun e w' => e = .returned (.int .i64 170) ∧ w = w' := by
  obtain ⟨m, xs, H, ok, hF⟩ := H
  obtain ⟨n, room, t, F⟩ := s
  dsimp only at H ok hF
  subst hF
  have hf := Lib.hid (find_no H ok ha hb (of_decide_eq_false h))
  clear H h
  unfold ptrV at *
  go_enter Try.func15, Try.ntmps15
  go_wp2_with fail
  refine hf.out.mono ?_
  rintro e w' ⟨rfl, rfl⟩
  go_wp2_with fail
  go_ret
  exact ⟨rfl, rfl⟩

def NSt.double (s : NSt) (a b j : Int) : NSt := ({ s with t := { s.t with doubled := s.t.doubled + 1 } } : NSt).come (a, b) (s.the a b j)

theorem double_yes (H : NAt p s L w) (ht : Tok 1000000000 s.t) {a b j : Int} (ha : okI a) (hb : okI b) (h : s.has a b j = true) :
    Calls Try.prog 15 #[ptrV p, .int .i64 a, .int .i64 b, .int .i64 j] w fun e w' => e = .returned (.int .i64 0) ∧ NAt p (s.double a b j) L w' := by
  obtain ⟨m, xs, H, ok, hF⟩ := H
  obtain ⟨n, room, t, F⟩ := s
  dsimp only at H ok hF ht
  subst hF
  obtain ⟨i, hi, k, hk, hkey, rfl, hl⟩ := has_lane ok (of_decide_eq_true h)
  have hf := Lib.hid (find_yes H ok ha hb hi hkey hk)
  have c4 := H.cell (b := p) (o := 4) (.here _ _) rfl
  have f4 := H.free (b := p) (.here _ _) 4
  obtain ⟨hd1, hd2⟩ := ht.doubled
  have H2 : SL (w.setCell ⟨p, 4, none⟩ (.int .i64 (t.doubled + 1))) (netP p m n room { t with doubled := t.doubled + 1 } xs ++ L) := H.setCell 4 _
  have hkk := ok.key _ (List.getElem_mem hi)
  rw [hkey] at hkk
  have hthe : NSt.the ⟨n, room, t, look xs⟩ a b k = ((xs[i]'hi).gs[k]'hk).bs := by unfold NSt.the; dsimp only; rw [hl]; simp [List.getD_eq_getElem?_getD, hk]
  have hlen := ok.byte _ (List.getElem_mem hi) _ (List.getElem_mem hk)
  obtain ⟨g, n0, c, a', c', h1, h2, h3, h4, h5, h6, h7⟩ := net_gram H2.tail.tail hi hk
  have hcm := Lib.hid (come_c H2 ok hkk a' c' ((xs[i]'hi).gs[k]'hk).bs hlen (fun V hV => by
    obtain ⟨g', n', c2, a2, c3, q1, q2, q3, q4, q5, q6, q7⟩ := net_gram hV hi hk
    rw [h7] at q7
    cases q7
    exact ⟨q5, q6⟩) ht.lost)
  have hfin : Hid (∀ xs', (∀ k', look xs' k' = comeF room (look xs) (a, b) ((xs[i]'hi).gs[k]'hk).bs k') → look xs' = (NSt.double ⟨n, room, t, look xs⟩ a b k).F) := Lib.hid fun xs' h => by
    unfold NSt.double
    rw [hthe]
    exact funext h
  have hT : Hid ((NSt.double ⟨n, room, t, look xs⟩ a b k).t = comeT room (look xs) (a, b) { t with doubled := t.doubled + 1 } ∧ (NSt.double ⟨n, room, t, look xs⟩ a b k).n = n ∧ (NSt.double ⟨n, room, t, look xs⟩ a b k).room = room) := Lib.hid ⟨rfl, rfl, rfl⟩
  generalize NSt.double ⟨n, room, t, look xs⟩ a b k = S at *
  generalize NSt.the ⟨n, room, t, look xs⟩ a b k = B at *
  generalize ((xs[i]'hi).gs[k]'hk).bs = bs at *
  obtain ⟨len, hlen'⟩ : ∃ len, bs.length = len := ⟨_, rfl⟩
  rw [hlen'] at h4 hcm
  generalize (xs[i]'hi).q = q at *
  clear H h1 h5 h6 h7 hl h hk hlen hlen' hthe ht
  have hH2 := Lib.hid H2
  clear H2
  unfold ptrV at *
  go_enter Try.func15, Try.ntmps15
  go_wp2_with fail
  refine hf.out.mono ?_
  rintro e w' ⟨rfl, rfl⟩
  clear hf
  go_upto_region 4 with (fail)
  generalize w.setCell ⟨p, 4, none⟩ (.int .i64 (t.doubled + 1)) = w2 at *
  go_wp2_with fail
  refine hcm.out.mono ?_
  rintro e w' ⟨⟨v, rfl⟩, m', xs', q1, q2, q3⟩
  clear hcm
  go_wp2_with fail
  go_ret
  refine ⟨rfl, m', xs', ?_, ?_, hfin.out xs' q3⟩
  · rw [hT.out.1, hT.out.2.1, hT.out.2.2]; exact q1
  · rw [hT.out.2.1, hT.out.2.2]; exact q2
end
end Go.Proofs.Ytnkahibddhchlaa
