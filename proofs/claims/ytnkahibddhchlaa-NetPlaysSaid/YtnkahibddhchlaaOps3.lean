/- The walks of Send, Flip. -/
import Derived.Test.YtnkahibddhchlaaOps2
import Derived.IntWalk
namespace Go.Proofs.Ytnkahibddhchlaa
open Go.RowKit
set_option linter.unusedVariables false

section
variable {p : Nat} {s : NSt} {L : List Pc} {w : World}

theorem send_c (H : NAt p s L w) (ht : Tok 1000000000 s.t) {a b : Int} (ha : okI a) (hb : okI b) (sa : Option Addr) (sc : Nat) (bs : List Int) (hr : ∀ V, SL V L → RdB V sa bs ∧ (sa = none → sc = 0)) :
    Calls Try.prog 11 #[ptrV p, .int .i64 a, .int .i64 b, .slice sa bs.length sc] w fun e w' => e = .returned (.int .i64 (s.send a b bs).1) ∧ NAt p (s.send a b bs).2 L w' := by
  obtain ⟨m, xs, H, ok, hF⟩ := H
  obtain ⟨n, room, t, F⟩ := s
  dsimp only at H ok hF ht
  subst hF
  have hno := Lib.hid (none_c H)
  have hia := Lib.hid (is_c H a)
  have hib := Lib.hid (is_c H b)
  obtain ⟨X, hX⟩ : ∃ X, NSt.send ⟨n, room, t, look xs⟩ a b bs = X := ⟨_, rfl⟩
  rw [hX]
  unfold NSt.send NSt.okB at hX
  dsimp only at hX
  have c3 := H.cell (b := p) (o := 3) (.here _ _) rfl
  have f3 := H.free (b := p) (.here _ _) 3
  obtain ⟨hd1, hd2⟩ := ht.sent
  have hH := Lib.hid H
  have H2 : SL (w.setCell ⟨p, 3, none⟩ (.int .i64 (t.sent + 1))) (netP p m n room { t with sent := t.sent + 1 } xs ++ L) := H.setCell 3 _
  have bad : X = (170, ⟨n, room, t, look xs⟩) → (NAt p X.2 L w ∧ X.1 = 170) := fun h => by rw [h]; exact ⟨⟨m, xs, H, ok, rfl⟩, rfl⟩
  have bad' := Lib.hid bad
  have hgo : ∀ (h0 : bs.length ≤ 1024) (h1 : 0 ≤ a ∧ a < n) (h2 : 0 ≤ b ∧ b < n) (h3 : a ≠ b), _ := fun h0 h1 h2 h3 => come_c H2 ok (⟨h1.1, h1.2, h2.1, h2.2, h3⟩ : 0 ≤ a ∧ a < n ∧ 0 ≤ b ∧ b < n ∧ a ≠ b) sa sc bs (by omega) (fun V hV => hr V (hV.re (by
    have : ∀ A B : List Pc, Re (A ++ B) B := fun A B => by
      induction A with
      | nil => exact .same _
      | cons x A ih => exact .drop ih
    exact this _ _))) ht.lost
  have hgo' := Lib.hid hgo
  have hX' := Lib.hid hX
  obtain ⟨ia, eia⟩ : ∃ r, decide (0 ≤ a ∧ a < (n : Int)) = r := ⟨_, rfl⟩
  obtain ⟨ib, eib⟩ : ∃ r, decide (0 ≤ b ∧ b < (n : Int)) = r := ⟨_, rfl⟩
  rw [eia] at hia hX'
  rw [eib] at hib hX'
  have eia' := Lib.hid eia
  have eib' := Lib.hid eib
  obtain ⟨len, hlen⟩ : ∃ len, bs.length = len := ⟨_, rfl⟩
  rw [hlen] at hgo' hX' ⊢
  have hlen' := Lib.hid hlen
  clear H H2 bad hgo hX eia eib hr ht hlen
  unfold ptrV at *
  go_enter Try.func11, Try.ntmps11
  go_wp2_with fail
  refine hno.out.mono ?_
  rintro e w' ⟨rfl, rfl⟩
  clear hno
  go_wp2_with fail
  refine hia.out.mono ?_
  rintro e w' ⟨rfl, rfl⟩
  clear hia
  have leave : Hid (X = (170, ⟨n, room, t, look xs⟩) → (Ending.returned (.int .i64 170) = Ending.returned (.int .i64 X.1) ∧ NAt p X.2 L w)) := Lib.hid fun h => by
    obtain ⟨q1, q2⟩ := bad'.out h
    exact ⟨by rw [q2], q1⟩
  cases ia
  · go_wp2_with fail
    go_ret
    exact leave.out (by rw [← hX'.out]; simp)
  · go_wp2_with fail
    refine hib.out.mono ?_
    rintro e w' ⟨rfl, rfl⟩
    clear hib
    cases ib
    · go_wp2_with fail
      go_ret
      exact leave.out (by rw [← hX'.out]; simp)
    · by_cases hab : a = b
      · have hab' : (a == b) = true := by simpa using hab
        have hl1 := Lib.hid hab
        clear hab
        go_wp2_with fail
        go_ret
        exact leave.out (by rw [← hX'.out]; simp [hl1.out])
      · have hab' : (a == b) = false := by simpa using hab
        have hl1 := Lib.hid hab
        by_cases h1024 : len ≤ 1024
        · have hgo2 := Lib.hid (hgo'.out h1024 (of_decide_eq_true eia'.out) (of_decide_eq_true eib'.out) hab)
          clear hab hgo'
          go_wp2_with fail
          refine hgo2.out.mono ?_
          rintro e w' ⟨⟨v, rfl⟩, m', xs', q1, q2, q3⟩
          clear hgo2
          go_wp2_with fail
          go_ret
          have e : X = (0, NSt.come ⟨n, room, { t with sent := t.sent + 1 }, look xs⟩ (a, b) bs) := by rw [← hX'.out]; simp [hl1.out, h1024]
          rw [e]
          exact ⟨rfl, m', xs', q1, q2, funext q3⟩
        · clear hab hgo'
          go_wp2_with fail
          go_ret
          exact leave.out (by rw [← hX'.out]; simp [h1024])

theorem flip_no (H : NAt p s L w) {a b j bit : Int} (ha : okI a) (hb : okI b) (h : s.has a b j = false) :
    Calls Try.prog 12 #[ptrV p, .int .i64 a, .int .i64 b, .int .i64 j, .int .i64 bit] w fun e w' => e = .returned (.int .i64 170) ∧ w = w' := by
  obtain ⟨m, xs, H, ok, hF⟩ := H
  obtain ⟨n, room, t, F⟩ := s
  dsimp only at H ok hF
  subst hF
  have hf := Lib.hid (find_no H ok ha hb (of_decide_eq_false h))
  clear H h
  unfold ptrV at *
  go_enter Try.func12, Try.ntmps12
  go_wp2_with fail
  refine hf.out.mono ?_
  rintro e w' ⟨rfl, rfl⟩
  go_wp2_with fail
  go_ret
  exact ⟨rfl, rfl⟩

/-- A byte of which a bit is turned. -/
def turn (z : Int) (r : Nat) : Int := bits .xor .u8 z (IntKind.u8.wrap (2 ^ r))
def flipB (bs : List Int) (bit : Int) : List Int := bs.set (bit / 8).toNat (turn (bs.getD (bit / 8).toNat 0) (bit % 8).toNat)
def NSt.flip (s : NSt) (a b j bit : Int) : NSt := { s with t := { s.t with flipped := s.t.flipped + 1 }, F := upd s.F (a, b) ((s.F (a, b)).set j.toNat (flipB (s.the a b j) bit)) }

theorem gs_set (gs : List Gr) (j : Nat) (hj : j < gs.length) (g : Gr) : ((gs.set j g).map grP).Perm (grP g :: (gs.eraseIdx j).map grP) := by
  have := gs_pull (gs.set j g) j (by simpa using hj)
  rw [List.getElem_set_self, List.eraseIdx_set_eq] at this
  exact this

theorem gram_form {g : Gr} (h : OwnK w 0 5 1 (slV g.v) g.bs.length (bv g.bs)) {o : Nat} (ho : o < g.bs.length) : ∃ b c, g.v = (some ⟨b, 0, none⟩, g.bs.length, c) ∧ w.cell? ⟨b, o, none⟩ = some (.int .u8 (g.bs.getD o 0)) ∧ w.frozen? ⟨b, o, none⟩ = false ∧ g.bs.length ≤ c ∧ c ≤ maxLen := by
  obtain ⟨⟨a, n, c⟩, bs⟩ := g
  dsimp only at h ho ⊢
  rcases h.form with ⟨_, e, _⟩ | ⟨b, cap, e, h2, h3, h4, h5, h6, h7, h8⟩
  · omega
  · simp only [slV, Value.slice.injEq] at e
    obtain ⟨rfl, rfl, rfl⟩ := e
    refine ⟨b, _, rfl, ?_, h8 o, h4, h5⟩
    rw [h7 o (by omega)]
    simp [bv, List.getD_eq_getElem?_getD, ho]

theorem net_gown {m : Nat} {n room : Nat} {t : Tf} {xs : List Ln} (H : SL w (netP p m n room t xs ++ L)) {i j : Nat} (hi : i < xs.length) (hj : j < (xs[i]'hi).gs.length) :
    SL w (grP ((xs[i]'hi).gs[j]'hj) :: lnB (xs[i]'hi).q (xs[i]'hi).h :: lnH (xs[i]'hi).h (xs[i]'hi).gs :: (((xs[i]'hi).gs.eraseIdx j).map grP ++ restP p m n room t xs i L)) := by
  refine (net_split H hi).perm ?_
  have := ((gs_pull (xs[i]'hi).gs j hj).append_right (restP p m n room t xs i L))
  refine (List.Perm.cons _ (List.Perm.cons _ this)).trans ?_
  exact (List.Perm.cons _ (List.Perm.swap _ _ _)).trans (List.Perm.swap _ _ _)

theorem gr_store {g c : Nat} {bs : List Int} {R : List Pc} (H : SL w (grP ⟨(some ⟨g, 0, none⟩, bs.length, c), bs⟩ :: R)) (o : Nat) (z : Int) :
    SL (w.setCell ⟨g, o, none⟩ (.int .u8 z)) (grP ⟨(some ⟨g, 0, none⟩, bs.length, c), bs.set o z⟩ :: R) := by
  have := own_store (show SL w (.own 5 1 (.slice (some ⟨g, 0, none⟩) bs.length c) bs.length (bv bs) :: R) from H) o (.int .u8 z)
  unfold grP slV
  dsimp only
  rw [List.length_set, show bv (bs.set o z) = (bv bs).set o (.int .u8 z) from by unfold bv; rw [List.map_set]]
  exact this

theorem net_gset {m : Nat} {n room : Nat} {t : Tf} {xs : List Ln} (H : SL w (netP p m n room t xs ++ L)) (ok : NOk n room xs) {a b : Int} {i j : Nat} (hi : i < xs.length) (hk : (xs[i]'hi).key = (a, b)) (hj : j < (xs[i]'hi).gs.length) {g n0 c : Nat}
    (hv : ((xs[i]'hi).gs[j]'hj).v = (some ⟨g, 0, none⟩, n0, c)) (hn0 : n0 = ((xs[i]'hi).gs[j]'hj).bs.length) (o : Nat) (z : Int) :
    ∃ xs', SL (w.setCell ⟨g, o, none⟩ (.int .u8 z)) (netP p m n room t xs' ++ L) ∧ NOk n room xs' ∧ look xs' = upd (look xs) (a, b) ((look xs (a, b)).set j (((xs[i]'hi).gs[j]'hj).bs.set o z)) := by
  have hl := (look_at ok hi hk).1
  have hG := net_gown H hi hj
  obtain ⟨G, hGe⟩ : ∃ G, (xs[i]'hi).gs[j]'hj = G := ⟨_, rfl⟩
  rw [hGe] at hG hv hn0 ⊢
  obtain ⟨v, bs⟩ := G
  dsimp only at hv hn0 ⊢
  subst hv
  subst hn0
  have h2 := gr_store hG o z
  refine ⟨xs.set i ⟨(xs[i]'hi).key, (xs[i]'hi).q, (xs[i]'hi).h, (xs[i]'hi).gs.set j ⟨(some ⟨g, 0, none⟩, bs.length, c), bs.set o z⟩⟩, ?_, ?_, ?_⟩
  · refine net_join hi ⟨(xs[i]'hi).key, (xs[i]'hi).q, (xs[i]'hi).h, (xs[i]'hi).gs.set j ⟨(some ⟨g, 0, none⟩, bs.length, c), bs.set o z⟩⟩ rfl rfl (h2.perm ?_)
    have e : lnH (xs[i]'hi).h ((xs[i]'hi).gs.set j ⟨(some ⟨g, 0, none⟩, bs.length, c), bs.set o z⟩) = lnH (xs[i]'hi).h (xs[i]'hi).gs := by
      unfold lnH
      rw [List.length_set]
      congr 1
      apply List.ext_getElem (by simp [grVs])
      intro y y1 y2
      simp only [grVs, List.getElem_map, List.getElem_set]
      split
      · rename_i e; subst e; rw [hGe]
      · rfl
    dsimp only
    rw [e]
    have := ((gs_set (xs[i]'hi).gs j hj ⟨(some ⟨g, 0, none⟩, bs.length, c), bs.set o z⟩).append_right (restP p m n room t xs i L)).symm
    exact ((List.Perm.swap _ _ _).trans (List.Perm.cons _ (List.Perm.swap _ _ _))).trans (List.Perm.cons _ (List.Perm.cons _ this))
  · refine ok.set hi _ rfl (by have := ok.len _ (List.getElem_mem hi); simpa using this) ?_
    intro y hy
    rcases List.mem_or_eq_of_mem_set hy with h | rfl
    · exact ok.byte _ (List.getElem_mem hi) y h
    · have := ok.byte _ (List.getElem_mem hi) _ (List.getElem_mem hj)
      rw [hGe] at this
      simpa using this
  · funext k
    refine (look_set ok hi ⟨(xs[i]'hi).key, (xs[i]'hi).q, (xs[i]'hi).h, (xs[i]'hi).gs.set j ⟨(some ⟨g, 0, none⟩, bs.length, c), bs.set o z⟩⟩ rfl k).trans ?_
    show upd _ (xs[i]'hi).key _ k = _
    rw [hk, hl]
    simp [List.map_set]

theorem flip_yes (H : NAt p s L w) (ht : Tok 1000000000 s.t) {a b j bit : Int} (ha : okI a) (hb : okI b) (h : s.has a b j = true) (hbit : 0 ≤ bit ∧ bit / 8 < (s.the a b j).length) :
    Calls Try.prog 12 #[ptrV p, .int .i64 a, .int .i64 b, .int .i64 j, .int .i64 bit] w fun e w' => e = .returned (.int .i64 0) ∧ NAt p (s.flip a b j bit) L w' := by
  obtain ⟨m, xs, H, ok, hF⟩ := H
  obtain ⟨n, room, t, F⟩ := s
  dsimp only at H ok hF ht
  subst hF
  obtain ⟨i, hi, k, hk, hkey, rfl, hl⟩ := has_lane ok (of_decide_eq_true h)
  have hf := Lib.hid (find_yes H ok ha hb hi hkey hk)
  have c8 := H.cell (b := p) (o := 8) (.here _ _) rfl
  have f8 := H.free (b := p) (.here _ _) 8
  obtain ⟨hd1, hd2⟩ := ht.flipped
  obtain ⟨g0, n0, c, a', c', h1, h2, h3, h4, h5, h6, h7⟩ := net_gram H.tail.tail hi hk
  have hthe : NSt.the ⟨n, room, t, look xs⟩ a b k = ((xs[i]'hi).gs[k]'hk).bs := by unfold NSt.the; dsimp only; rw [hl]; simp [List.getD_eq_getElem?_getD, hk]
  have hX : Hid (NSt.flip ⟨n, room, t, look xs⟩ a b k bit = ⟨n, room, { t with flipped := t.flipped + 1 }, upd (look xs) (a, b) ((look xs (a, b)).set k (((xs[i]'hi).gs[k]'hk).bs.set (bit / 8).toNat (turn (((xs[i]'hi).gs[k]'hk).bs.getD (bit / 8).toNat 0) (bit % 8).toNat)))⟩) := Lib.hid (by unfold NSt.flip flipB; rw [hthe]; simp)
  rw [hthe] at hbit
  obtain ⟨hb0, hb1⟩ := hbit
  obtain ⟨o, ho⟩ : ∃ o : Nat, bit / 8 = o := ⟨(bit / 8).toNat, by omega⟩
  obtain ⟨r, hr⟩ : ∃ r : Nat, bit % 8 = r := ⟨(bit % 8).toNat, by omega⟩
  have hr8 : r < 8 := by omega
  have ho' : o < ((xs[i]'hi).gs[k]'hk).bs.length := by omega
  obtain ⟨gb, gc, e1, e2, e3, e4, e5⟩ := gram_form (net_gown H hi hk).head ho'
  rw [h7] at e1
  cases e1
  have H2 : SL (w.setCell ⟨p, 8, none⟩ (.int .i64 (t.flipped + 1))) (netP p m n room { t with flipped := t.flipped + 1 } xs ++ L) := H.setCell 8 _
  obtain ⟨gb', gc', e1', e2', e3', e4', e5'⟩ := gram_form (net_gown H2 hi hk).head ho'
  rw [h7] at e1'
  cases e1'
  have hw2 : Hid (∀ V, SL V (netP p m n room { t with flipped := t.flipped + 1 } xs ++ L) → NAt p (NSt.flip ⟨n, room, t, look xs⟩ a b k bit) L (V.setCell ⟨gb, o, none⟩ (.int .u8 (turn (((xs[i]'hi).gs[k]'hk).bs.getD o 0) r)))) := Lib.hid fun V hV => by
    obtain ⟨xs', q1, q2, q3⟩ := net_gset hV ok hi hkey hk h7 rfl o (turn (((xs[i]'hi).gs[k]'hk).bs.getD o 0) r)
    refine ⟨m, xs', ?_, ?_, ?_⟩
    · rw [hX.out]; exact q1
    · rw [hX.out]; exact q2
    · rw [hX.out, q3]
      rw [ho, hr]
      simp
  have hcell := Lib.hid (fun V (hV : SL V (netP p m n room { t with flipped := t.flipped + 1 } xs ++ L)) => by
    obtain ⟨gb', gc', e1', e2', e3', e4', e5'⟩ := gram_form (net_gown hV hi hk).head ho'
    rw [h7] at e1'
    cases e1'
    exact (⟨e2', e3'⟩ : V.cell? ⟨gb, o, none⟩ = some (.int .u8 (((xs[i]'hi).gs[k]'hk).bs.getD o 0)) ∧ V.frozen? ⟨gb, o, none⟩ = false))
  have hq1 : bit.tdiv 8 = (o : Int) := by rw [Int.tdiv_eq_ediv_of_nonneg hb0]; exact ho
  have hq2 : bit.tmod 8 = (r : Int) := by rw [Int.tmod_eq_emod_of_nonneg hb0]; exact hr
  have ho2 : o ≤ 1100 := by have := ok.byte _ (List.getElem_mem hi) _ (List.getElem_mem hk); omega
  have hb2 : bit ≤ 9000 := by omega
  generalize (((xs[i]'hi).gs[k]'hk).bs.getD o 0) = z at *
  generalize NSt.flip ⟨n, room, t, look xs⟩ a b k bit = S at *
  generalize (xs[i]'hi).q = q at *
  obtain ⟨len, hlen'⟩ : ∃ len, ((xs[i]'hi).gs[k]'hk).bs.length = len := ⟨_, rfl⟩
  rw [hlen'] at h4 hb1 ho'
  unfold ptrV at *
  have hH2 := Lib.hid H2
  clear ho hr hb1
  clear H H2 h1 h5 h6 h7 hl h hthe ht hlen' e2 e3 e4 e5 e2' e3' e4' e5' hX
  go_enter Try.func12, Try.ntmps12
  go_wp2_with fail
  refine hf.out.mono ?_
  rintro e w' ⟨rfl, rfl⟩
  clear hf
  go_upto_region 8 with (fail)
  generalize w.setCell ⟨p, 8, none⟩ (.int .i64 (t.flipped + 1)) = w2 at *
  have hH := hH2
  clear hH2 c8 f8 h3 h4
  have hwo : IntKind.i64.wrap (o : Int) = o := IntWalk.i64_in (o : Int) ⟨by omega, by omega⟩
  have hwr : IntKind.i64.wrap (r : Int) = r := IntWalk.i64_in (r : Int) ⟨by omega, by omega⟩
  have hz := (hcell.out _ hH.out).1
  go_still_tail 10, (by kernel_rfl)
  change wpList _ _ _ _ _ w2.drew
  have H3 := Lib.hid hH.out.drew
  generalize w2.drew = w3 at *
  clear hH hz
  have hf := (hcell.out _ H3.out).2
  have hz := (hcell.out _ H3.out).1
  have hfin := Lib.hid (hw2.out _ H3.out)
  clear hw2 hcell H3
  go_wp2_with fail
  go_ret
  exact ⟨rfl, hfin.out⟩

theorem flip_bad (H : NAt p s L w) {a b j bit : Int} (ha : okI a) (hb : okI b) (hbi : okI bit) (h : s.has a b j = true) (hbit : ¬ (0 ≤ bit ∧ bit / 8 < (s.the a b j).length)) :
    Calls Try.prog 12 #[ptrV p, .int .i64 a, .int .i64 b, .int .i64 j, .int .i64 bit] w fun e w' => e = .returned (.int .i64 170) ∧ w = w' := by
  obtain ⟨m, xs, H, ok, hF⟩ := H
  obtain ⟨n, room, t, F⟩ := s
  dsimp only at H ok hF
  subst hF
  obtain ⟨i, hi, k, hk, hkey, rfl, hl⟩ := has_lane ok (of_decide_eq_true h)
  have hf := Lib.hid (find_yes H ok ha hb hi hkey hk)
  obtain ⟨g0, n0, c, a', c', h1, h2, h3, h4, h5, h6, h7⟩ := net_gram H.tail.tail hi hk
  have hthe : NSt.the ⟨n, room, t, look xs⟩ a b k = ((xs[i]'hi).gs[k]'hk).bs := by unfold NSt.the; dsimp only; rw [hl]; simp [List.getD_eq_getElem?_getD, hk]
  rw [hthe] at hbit
  have hlen := ok.byte _ (List.getElem_mem hi) _ (List.getElem_mem hk)
  generalize (xs[i]'hi).q = q at *
  obtain ⟨len, hlen'⟩ : ∃ len, ((xs[i]'hi).gs[k]'hk).bs.length = len := ⟨_, rfl⟩
  rw [hlen'] at h4 hbit hlen
  clear H h1 h5 h6 h7 hl h hthe hlen'
  unfold ptrV at *
  by_cases h0 : bit < 0
  · clear hbit hbi
    go_enter Try.func12, Try.ntmps12
    go_wp2_with fail
    refine hf.out.mono ?_
    rintro e w' ⟨rfl, rfl⟩
    go_wp2_with fail
    go_ret
    exact ⟨rfl, rfl⟩
  · have h0' : 0 ≤ bit := by omega
    have e2 : IntKind.i64.max = 9223372036854775807 := by decide
    have hbm : bit ≤ 9223372036854775807 := by
      unfold okI at hbi; simp [Lit.wf, e2] at hbi; omega
    obtain ⟨z, hz⟩ : ∃ z, wrap64 (bit.tdiv 8) = z := ⟨_, rfl⟩
    have hz2 : (len : Int) ≤ z := by
      have e : wrap64 (bit.tdiv 8) = bit.tdiv 8 := IntWalk.wrap64_in (bit.tdiv 8) ⟨by rw [Int.tdiv_eq_ediv_of_nonneg h0']; omega, by rw [Int.tdiv_eq_ediv_of_nonneg h0']; omega⟩
      rw [← hz, e, Int.tdiv_eq_ediv_of_nonneg h0']
      omega
    clear hbit hbi hbm h0 e2
    go_enter Try.func12, Try.ntmps12
    go_wp2_with fail
    refine hf.out.mono ?_
    rintro e w' ⟨rfl, rfl⟩
    go_wp2_with fail
    go_ret
    exact ⟨rfl, rfl⟩
end
end Go.Proofs.Ytnkahibddhchlaa
