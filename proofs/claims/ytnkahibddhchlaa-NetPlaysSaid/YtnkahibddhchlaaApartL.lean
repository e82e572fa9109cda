/- What is done on other ways; two nets at once. -/
import Derived.Test.YtnkahibddhchlaaPlayW
import Derived.Test.YtnkahibddhchlaaCopy
namespace Go.Proofs.Ytnkahibddhchlaa
open Go.RowKit
set_option linter.unusedVariables false

theorem upd_other (F : Ky → List (List Int)) {k k' : Ky} (v : List (List Int)) (h : k' ≠ k) : upd F k v k' = F k' := by simp [upd, h]
theorem comeF_other (room : Nat) (F : Ky → List (List Int)) {k k' : Ky} (bs : List Int) (h : k' ≠ k) : comeF room F k bs k' = F k' := by
  unfold comeF
  split
  · exact upd_other _ _ h
  · rfl
theorem comeF_self (room : Nat) (F : Ky → List (List Int)) (k : Ky) (bs : List Int) : comeF room F k bs k = if (F k).length < room then F k ++ [bs] else F k := by
  unfold comeF
  split
  · exact upd_self _ _ _
  · rfl

/-- A call that is not of this way. -/
theorem play_other (s : NSt) (o : OpI) {k : Ky} (h : ¬ (o.dst = k.2 ∧ (o.fr = k.1 ∨ o.kind = 5))) : (s.play o).F k = s.F k := by
  by_cases h5 : o.kind = 5
  · have hd : k.2 ≠ o.dst := fun e => h ⟨e.symm, .inr h5⟩
    unfold NSt.play NSt.clr NSt.clear clrF
    simp only [h5]
    simp only [show ¬ ((5 : Int) = 0) by decide, show ¬ ((5 : Int) = 1) by decide, show ¬ ((5 : Int) = 2) by decide, show ¬ ((5 : Int) = 3) by decide, show ¬ ((5 : Int) = 4) by decide, if_false, if_true]
    split
    · simp [hd]
    · rfl
  · have hk : k ≠ (o.fr, o.dst) := fun e => h ⟨by rw [e], .inl (by rw [e])⟩
    unfold NSt.play
    split
    · unfold NSt.send
      split
      · exact comeF_other _ _ _ hk
      · rfl
    split
    · unfold NSt.deliv
      split
      · exact upd_other _ _ hk
      · rfl
    split
    · unfold NSt.drop
      split
      · exact upd_other _ _ hk
      · rfl
    split
    · unfold NSt.dbl
      split
      · exact comeF_other _ _ _ hk
      · rfl
    split
    · unfold NSt.flp
      split
      · exact upd_other _ _ hk
      · rfl
    rfl
/-- A way of two nets, ahead of a call. -/
theorem play_same {s s2 : NSt} (hn : s.n = s2.n) (hr : s.room = s2.room) (o : OpI) {k : Ky} (h : s.F k = s2.F k) : (s.play o).F k = (s2.play o).F k := by
  by_cases hown : o.dst = k.2 ∧ (o.fr = k.1 ∨ o.kind = 5)
  · by_cases h5 : o.kind = 5
    · have hd : k.2 = o.dst := hown.1.symm
      unfold NSt.play NSt.clr NSt.clear clrF
      simp only [h5]
      simp only [show ¬ ((5 : Int) = 0) by decide, show ¬ ((5 : Int) = 1) by decide, show ¬ ((5 : Int) = 2) by decide, show ¬ ((5 : Int) = 3) by decide, show ¬ ((5 : Int) = 4) by decide, if_false, if_true, hn]
      split
      · simp [hd]
      · exact h
    · have hk : (o.fr, o.dst) = k := by rw [hown.1, hown.2.resolve_right h5]
      subst hk
      unfold NSt.play
      split
      · unfold NSt.send NSt.okB
        rw [hn]
        split
        · show comeF s.room s.F _ _ _ = comeF s2.room s2.F _ _ _
          rw [comeF_self, comeF_self, h, hr]
        · exact h
      split
      · unfold NSt.deliv NSt.has NSt.gone
        rw [h]
        split
        · dsimp only
          rw [upd_self, upd_self]
        · exact h
      split
      · unfold NSt.drop NSt.has NSt.gone
        rw [h]
        split
        · dsimp only
          rw [upd_self, upd_self]
        · exact h
      split
      · unfold NSt.dbl NSt.has
        rw [h]
        split
        · unfold NSt.double NSt.the
          rw [h]
          show comeF s.room s.F _ _ _ = comeF s2.room s2.F _ _ _
          rw [comeF_self, comeF_self, h, hr]
        · exact h
      split
      · unfold NSt.flp NSt.has NSt.the
        rw [h]
        split
        · unfold NSt.flip NSt.the
          dsimp only
          rw [upd_self, upd_self, h]
        · exact h
      exact h
  · rw [play_other s o hown, play_other s2 o hown, h]

/-! ### Two nets -/
def TwoN (p : Nat) (s : NSt) (q : Nat) (s2 : NSt) (L : List Pc) (V : World) : Prop := ∃ N, NetIs q s2 N ∧ NAt p s (N ++ L) V
section
variable {p q : Nat} {s s2 : NSt} {L : List Pc} {w w' : World}
theorem TwoN.swap (H : TwoN p s q s2 L w) : TwoN q s2 p s L w := by
  obtain ⟨N, h, H⟩ := H
  obtain ⟨N', h', H'⟩ := H.two h
  exact ⟨N', h', H'⟩
theorem TwoN.tail (H : TwoN p s q s2 L w) : SL w L := by
  obtain ⟨N, h, H⟩ := H
  exact H.tail.re (re_right _ _)
theorem TwoN.drew (H : TwoN p s q s2 L w) : TwoN p s q s2 L w.drew := by
  obtain ⟨N, h, H⟩ := H
  exact ⟨N, h, H.drew⟩
theorem TwoN.drewN (H : TwoN p s q s2 L w) (n : Nat) : TwoN p s q s2 L (w.drewN n) := by
  obtain ⟨N, h, H⟩ := H
  exact ⟨N, h, H.drewN n⟩
theorem TwoN.len1 (H : TwoN p s q s2 L w) (a b : Int) : Calls Try.prog 19 #[ptrV p, .int .i64 a, .int .i64 b] w fun e w' => e = .returned (.int .i64 ((s.F (a, b)).length : Nat)) ∧ TwoN p s q s2 L w' := by
  obtain ⟨N, h, H⟩ := H
  exact (len_c H a b).mono fun e w' ⟨h1, h2⟩ => ⟨h1, N, h, h2⟩
theorem TwoN.len2 (H : TwoN p s q s2 L w) (a b : Int) : Calls Try.prog 19 #[ptrV q, .int .i64 a, .int .i64 b] w fun e w' => e = .returned (.int .i64 ((s2.F (a, b)).length : Nat)) ∧ TwoN p s q s2 L w' :=
  (H.swap.len1 a b).mono fun e w' ⟨h1, h2⟩ => ⟨h1, h2.swap⟩
theorem TwoN.peek1 (H : TwoN p s q s2 L w) {a b j : Int} (ha : okI a) (hb : okI b) (h : s.has a b j = true) :
    Calls Try.prog 13 #[ptrV p, .int .i64 a, .int .i64 b, .int .i64 j] w fun e w' => ∃ v, e = .returned (.tuple #[slV v, .bool true]) ∧ TwoN p s q s2 (grP ⟨v, s.the a b j⟩ :: L) w' := by
  obtain ⟨N, h', H⟩ := H
  refine (peek_yes H ha hb h).mono ?_
  rintro e w' ⟨v, rfl, h2⟩
  exact ⟨v, rfl, N, h', h2.map fun M hM => hM.perm (List.perm_middle.symm.append_left M)⟩
theorem TwoN.peek2 (H : TwoN p s q s2 L w) {a b j : Int} (ha : okI a) (hb : okI b) (h : s2.has a b j = true) :
    Calls Try.prog 13 #[ptrV q, .int .i64 a, .int .i64 b, .int .i64 j] w fun e w' => ∃ v, e = .returned (.tuple #[slV v, .bool true]) ∧ TwoN p s q s2 (grP ⟨v, s2.the a b j⟩ :: L) w' := by
  refine (H.swap.peek1 ha hb h).mono ?_
  rintro e w' ⟨v, rfl, h2⟩
  exact ⟨v, rfl, h2.swap⟩
theorem TwoN.play1 (H : TwoN p s q s2 L w) (ht : Tok 1000000000 s.t) {b o c : Nat} {x : OpI} (hop : ∀ V, SL V L → OpAt V b o x) :
    Calls Try.prog 18 #[ptrV p, .slice (some ⟨b, o, none⟩) 1 c] w fun e w' => (∃ v, e = .returned v) ∧ TwoN p (s.play x) q s2 L w' := by
  obtain ⟨N, h, H⟩ := H
  exact (play_c H ht (fun V hV => hop V (hV.re (re_right _ _)))).mono fun e w' ⟨h1, h2⟩ => ⟨h1, N, h, h2⟩
theorem TwoN.play2 (H : TwoN p s q s2 L w) (ht : Tok 1000000000 s2.t) {b o c : Nat} {x : OpI} (hop : ∀ V, SL V L → OpAt V b o x) :
    Calls Try.prog 18 #[ptrV q, .slice (some ⟨b, o, none⟩) 1 c] w fun e w' => (∃ v, e = .returned v) ∧ TwoN p s q (s2.play x) L w' :=
  (H.swap.play1 ht hop).mono fun e w' ⟨h1, h2⟩ => ⟨h1, h2.swap⟩
theorem TwoN.new (H : NAt p s L w) (n room : Nat) (h1 : 1 ≤ n) (h2 : n ≤ 64) (h3 : 1 ≤ room) (h4 : room ≤ 256) :
    Calls Try.prog 10 #[.int .i64 n, .int .i64 room] w fun e w' => ∃ q, e = .returned (.tuple #[ptrV q, .int .i64 0]) ∧ TwoN p s q ⟨n, room, t0, fun _ => []⟩ L w' := by
  obtain ⟨N, h, H⟩ := H.is
  refine (new_at n room h1 h2 h3 h4 H).mono ?_
  rintro e w' ⟨q, rfl, h'⟩
  exact ⟨q, rfl, TwoN.swap ⟨N, h, h'⟩⟩
theorem TwoN.ok1 (H : TwoN p s q s2 L w) {B : Int} (ht : Tok B s.t) (hc : Cons s) (o : OpI) : Tok (B + 1100000) (s.play o).t ∧ Cons (s.play o) ∧ (s.play o).n = s.n ∧ (s.play o).room = s.room := by
  obtain ⟨N, h, H⟩ := H
  exact play_ok H ht hc o
theorem TwoN.len (H : TwoN p s q s2 L w) (k : Ky) : (s.F k).length ≤ 256 := by
  obtain ⟨N, h, H⟩ := H
  exact Nat.le_trans (H.lenF k) H.sizes.2.2.2
end
end Go.Proofs.Ytnkahibddhchlaa
