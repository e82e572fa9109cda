/- The walks of Send, Deliver, Drop, Double, Peek. -/
import Derived.Test.YtnkahibddhchlaaCome
namespace Go.Proofs.Ytnkahibddhchlaa
open Go.RowKit
set_option linter.unusedVariables false

structure NSt where
  n : Nat
  room : Nat
  t : Tf
  F : Ky → List (List Int)
def NAt (p : Nat) (s : NSt) (L : List Pc) (w : World) : Prop := ∃ m xs, SL w (netP p m s.n s.room s.t xs ++ L) ∧ NOk s.n s.room xs ∧ look xs = s.F
/-- The counts are small. -/
structure Tok (B : Int) (t : Tf) : Prop where
  sent : 0 ≤ t.sent ∧ t.sent ≤ B
  doubled : 0 ≤ t.doubled ∧ t.doubled ≤ B
  delivered : 0 ≤ t.delivered ∧ t.delivered ≤ B
  dropped : 0 ≤ t.dropped ∧ t.dropped ≤ B
  lost : 0 ≤ t.lost ∧ t.lost ≤ B
  flipped : 0 ≤ t.flipped ∧ t.flipped ≤ B

def NSt.okB (s : NSt) (a b : Int) : Bool := decide (0 ≤ a ∧ a < s.n) && decide (0 ≤ b ∧ b < s.n) && !decide (a = b)
def NSt.come (s : NSt) (k : Ky) (bs : List Int) : NSt := { s with t := comeT s.room s.F k s.t, F := comeF s.room s.F k bs }
def NSt.send (s : NSt) (a b : Int) (bs : List Int) : Int × NSt :=
  if s.okB a b = true ∧ bs.length ≤ 1024 then (0, ({ s with t := { s.t with sent := s.t.sent + 1 } } : NSt).come (a, b) bs) else (170, s)
def NSt.has (s : NSt) (a b j : Int) : Bool := decide (0 ≤ j ∧ j < (s.F (a, b)).length)
def NSt.gone (s : NSt) (a b j : Int) : NSt := { s with F := upd s.F (a, b) ((s.F (a, b)).eraseIdx j.toNat) }
def NSt.the (s : NSt) (a b j : Int) : List Int := (s.F (a, b)).getD j.toNat []

theorem gs_pull : ∀ (gs : List Gr) (j : Nat) (hj : j < gs.length), (gs.map grP).Perm (grP (gs[j]'hj) :: (gs.eraseIdx j).map grP)
  | g :: gs, 0, _ => .refl _
  | g :: gs, j + 1, h => by
    have := gs_pull gs j (by simpa using h)
    exact (this.cons _).trans (.swap _ _ _)
  | [], j, h => by simp at h

theorem has_lane {xs : List Ln} {n room : Nat} (ok : NOk n room xs) {a b j : Int} (h : 0 ≤ j ∧ j < (look xs (a, b)).length) :
    ∃ (i : Nat) (hi : i < xs.length) (k : Nat) (hk : k < (xs[i]'hi).gs.length), (xs[i]'hi).key = (a, b) ∧ j = k ∧ look xs (a, b) = (xs[i]'hi).gs.map Gr.bs := by
  rcases look_cases xs (a, b) with hn | ⟨i, hi, hk⟩
  · rw [(look_none hn).1] at h
    simp at h
    omega
  · have hl := (look_at ok hi hk).1
    rw [hl, List.length_map] at h
    exact ⟨i, hi, j.toNat, by omega, hk, by omega, hl⟩

section
variable {p m : Nat} {n room : Nat} {t : Tf} {xs : List Ln} {L : List Pc} {w : World}

theorem net_out (H : SL w (netP p m n room t xs ++ L)) (ok : NOk n room xs) {a b : Int} {i j : Nat} (hi : i < xs.length) (hk : (xs[i]'hi).key = (a, b)) (hj : j < (xs[i]'hi).gs.length) :
    Calls Try.prog 36 #[ptrV (xs[i]'hi).q, .int .i64 j] w fun e w' => ∃ v, e = .returned (slV v) ∧ ∃ xs', SL w' (netP p m n room t xs' ++ (grP ⟨v, ((look xs (a, b)).getD j [])⟩ :: L)) ∧ NOk n room xs' ∧ look xs' = upd (look xs) (a, b) ((look xs (a, b)).eraseIdx j) := by
  have hl := (look_at ok hi hk).1
  refine (out_c (net_split H hi) hj).mono ?_
  rintro e w' ⟨rfl, h', H2⟩
  refine ⟨_, rfl, xs.set i ⟨(xs[i]'hi).key, (xs[i]'hi).q, h', (xs[i]'hi).gs.eraseIdx j⟩, ?_, ?_, ?_⟩
  · refine net_join hi ⟨(xs[i]'hi).key, (xs[i]'hi).q, h', (xs[i]'hi).gs.eraseIdx j⟩ rfl rfl (H2.perm ?_)
    refine List.Perm.cons _ (List.Perm.cons _ ?_)
    have e : grP ⟨((xs[i]'hi).gs[j]'hj).v, (look xs (a, b)).getD j []⟩ = grP ((xs[i]'hi).gs[j]'hj) := by
      rw [hl]; simp [List.getD_eq_getElem?_getD, hj]
    rw [e]
    refine ((gs_pull _ j hj).append_right _).trans ?_
    show List.Perm (grP _ :: (_ ++ _)) _
    have e2 : restP p m n room t xs i (grP ((xs[i]'hi).gs[j]'hj) :: L) = (netB p n room m t :: kmap m (xs.map kOf) :: lnsP (xs.eraseIdx i)) ++ grP ((xs[i]'hi).gs[j]'hj) :: L := by simp [restP]
    have e3 : restP p m n room t xs i L = (netB p n room m t :: kmap m (xs.map kOf) :: lnsP (xs.eraseIdx i)) ++ L := by simp [restP]
    rw [e2, e3]
    rw [← List.append_assoc, ← List.append_assoc]
    exact List.perm_middle.symm
  · refine ok.set hi _ rfl ?_ ?_
    · have := ok.len _ (List.getElem_mem hi)
      rw [List.length_eraseIdx_of_lt hj]
      omega
    · exact fun g hg => ok.byte _ (List.getElem_mem hi) g (List.mem_of_mem_eraseIdx hg)
  · funext k
    refine (look_set ok hi ⟨(xs[i]'hi).key, (xs[i]'hi).q, h', (xs[i]'hi).gs.eraseIdx j⟩ rfl k).trans ?_
    show upd _ (xs[i]'hi).key _ k = _
    rw [hk, hl, eraseIdx_map']
end

section
variable {p : Nat} {s : NSt} {L : List Pc} {w : World}

theorem deliver_yes (H : NAt p s L w) (ht : Tok 1000000000 s.t) {a b j : Int} (ha : okI a) (hb : okI b) (h : s.has a b j = true) :
    Calls Try.prog 14 #[ptrV p, .int .i64 a, .int .i64 b, .int .i64 j] w fun e w' => ∃ v, e = .returned (.tuple #[slV v, .int .i64 0]) ∧ NAt p { s.gone a b j with t := { s.t with delivered := s.t.delivered + 1 } } (grP ⟨v, s.the a b j⟩ :: L) w' := by
  obtain ⟨m, xs, H, ok, hF⟩ := H
  obtain ⟨n, room, t, F⟩ := s
  dsimp only at H ok hF ht
  subst hF
  obtain ⟨i, hi, k, hk, hkey, rfl, hl⟩ := has_lane ok (of_decide_eq_true h)
  have hf := Lib.hid (find_yes H ok ha hb hi hkey hk)
  have c5 := H.cell (b := p) (o := 5) (.here _ _) rfl
  have f5 := H.free (b := p) (.here _ _) 5
  obtain ⟨hd1, hd2⟩ := ht.delivered
  have H2 : SL (w.setCell ⟨p, 5, none⟩ (.int .i64 (t.delivered + 1))) (netP p m n room { t with delivered := t.delivered + 1 } xs ++ L) := H.setCell 5 _
  have ho := Lib.hid (net_out H2 ok hi hkey hk)
  clear H H2 hl h ht
  have hf' := hf
  clear hf
  generalize (xs[i]'hi).q = q at *
  unfold ptrV at *
  go_enter Try.func14, Try.ntmps14
  go_wp2_with fail
  refine hf'.out.mono ?_
  rintro e w' ⟨rfl, rfl⟩
  go_wp2_with fail
  refine ho.out.mono ?_
  rintro e w' ⟨v, rfl, xs', q1, q2, q3⟩
  clear ho hf'
  go_wp2_with fail
  go_ret2
  exact ⟨v, rfl, m, xs', q1, q2, q3⟩

theorem deliver_no (H : NAt p s L w) {a b j : Int} (ha : okI a) (hb : okI b) (h : s.has a b j = false) :
    Calls Try.prog 14 #[ptrV p, .int .i64 a, .int .i64 b, .int .i64 j] w fun e w' => e = .returned (.tuple #[.slice none 0 0, .int .i64 170]) ∧ w = w' := by
  obtain ⟨m, xs, H, ok, hF⟩ := H
  obtain ⟨n, room, t, F⟩ := s
  dsimp only at H ok hF
  subst hF
  have hf := Lib.hid (find_no H ok ha hb (of_decide_eq_false h))
  clear H h
  unfold ptrV at *
  go_enter Try.func14, Try.ntmps14
  go_wp2_with fail
  refine hf.out.mono ?_
  rintro e w' ⟨rfl, rfl⟩
  go_wp2_with fail
  go_ret2
  exact ⟨rfl, rfl⟩

theorem drop_yes (H : NAt p s L w) (ht : Tok 1000000000 s.t) {a b j : Int} (ha : okI a) (hb : okI b) (h : s.has a b j = true) :
    Calls Try.prog 28 #[ptrV p, .int .i64 a, .int .i64 b, .int .i64 j] w fun e w' => e = .returned (.int .i64 0) ∧ NAt p { s.gone a b j with t := { s.t with dropped := s.t.dropped + 1 } } L w' := by
  obtain ⟨m, xs, H, ok, hF⟩ := H
  obtain ⟨n, room, t, F⟩ := s
  dsimp only at H ok hF ht
  subst hF
  obtain ⟨i, hi, k, hk, hkey, rfl, hl⟩ := has_lane ok (of_decide_eq_true h)
  have hf := Lib.hid (find_yes H ok ha hb hi hkey hk)
  have c5 := H.cell (b := p) (o := 6) (.here _ _) rfl
  have f5 := H.free (b := p) (.here _ _) 6
  obtain ⟨hd1, hd2⟩ := ht.dropped
  have H2 : SL (w.setCell ⟨p, 6, none⟩ (.int .i64 (t.dropped + 1))) (netP p m n room { t with dropped := t.dropped + 1 } xs ++ L) := H.setCell 6 _
  have ho := Lib.hid (net_out H2 ok hi hkey hk)
  clear H H2 hl h ht
  have hf' := hf
  clear hf
  generalize (xs[i]'hi).q = q at *
  unfold ptrV at *
  go_enter Try.func28, Try.ntmps28
  go_wp2_with fail
  refine hf'.out.mono ?_
  rintro e w' ⟨rfl, rfl⟩
  go_wp2_with fail
  refine ho.out.mono ?_
  rintro e w' ⟨v, rfl, xs', q1, q2, q3⟩
  clear ho hf'
  go_wp2_with fail
  go_ret
  exact ⟨rfl, m, xs', (q1.perm List.perm_middle).tail, q2, q3⟩

theorem drop_no (H : NAt p s L w) {a b j : Int} (ha : okI a) (hb : okI b) (h : s.has a b j = false) :
    Calls Try.prog 28 #[ptrV p, .int .i64 a, .int .i64 b, .int .i64 j] w fun e w' => e = .returned (.int .i64 170) ∧ w = w' := by
  obtain ⟨m, xs, H, ok, hF⟩ := H
  obtain ⟨n, room, t, F⟩ := s
  dsimp only at H ok hF
  subst hF
  have hf := Lib.hid (find_no H ok ha hb (of_decide_eq_false h))
  clear H h
  unfold ptrV at *
  go_enter Try.func28, Try.ntmps28
  go_wp2_with fail
  refine hf.out.mono ?_
  rintro e w' ⟨rfl, rfl⟩
  go_wp2_with fail
  go_ret
  exact ⟨rfl, rfl⟩
end
end Go.Proofs.Ytnkahibddhchlaa
