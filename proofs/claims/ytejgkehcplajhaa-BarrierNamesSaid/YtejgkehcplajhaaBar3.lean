/- The walk of barrier's New. -/
import Derived.Test.YtejgkehcplajhaaBar2
namespace Go.Proofs.Ytejgkehcplajhaa
open Go.RowKit
set_option linter.unusedVariables false

def prevI (ms : List Int) (k : Nat) : Int := if k = 0 then -1 else ms.getD (k - 1) 0
def okAt (ms : List Int) (k : Nat) : Prop := prevI ms k < ms.getD k 0 ∧ ms.getD k 0 ≤ 63
def Good (ms : List Int) (fr n : Int) : Prop := (∀ k, k < ms.length → okAt ms k) ∧ ms ≠ [] ∧ 0 ≤ n ∧ n ≤ 1000 ∧ 0 ≤ fr ∧ fr ≤ n

def NewPost (ms : List Int) (fr n : Int) (w : World) (L : List Pc) (e : Ending) (w' : World) : Prop :=
  (¬ Good ms fr n ∧ e = .returned (.tuple #[.pointer none, .int .i64 250]) ∧ w = w') ∨
  (Good ms fr n ∧ ∃ p m a c, e = .returned (.tuple #[.pointer (some ⟨p, 0, none⟩), .int .i64 0]) ∧
    SL w' (barB p (.slice a ms.length c) fr fr n m :: iset m (fun _ => false) :: .own 3 1 (.slice a ms.length c) ms.length (iv ms) :: L))

theorem iset_made {w : World} {L : List Pc} (H : SL w L) : SL (w.alloc (.map #[] 0)) (iset w.heap.size (fun _ => false) :: L) :=
  H.new ((Kp.refl no w).alloc _) ⟨#[], 0, blk_new w _, by simp, by simp⟩ fun b hb => Nat.le_of_eq hb.symm

theorem cell_d {w : World} {a : Option Addr} {l : List Int} (h : RdI w a l) {i : Nat} (hi : i < l.length) : ∃ b o, a = some ⟨b, o, none⟩ ∧ w.cell? ⟨b, o + i, none⟩ = some (.int .i64 (l.getD i 0)) := h i hi

set_option maxHeartbeats 2000000 in
theorem new_c (ms : List Int) (fr n : Int) (a : Option Addr) (c : Nat) (w : World) {L : List Pc} (H : SL w L) (hl : ms.length ≤ 100) (hr : RdI w a ms) :
    Calls Try.prog 14 #[.slice a ms.length c, .int .i64 fr, .int .i64 n] w (NewPost ms fr n w L) := by
  have hr' := Lib.hid hr
  have hcl := Lib.hid (fun (b o : Nat) (e : a = some ⟨b, o, none⟩) => clone_c ms b o c w H (by omega) (by rw [← e]; exact hr))
  obtain ⟨N, hN⟩ : ∃ N, ms.length = N := ⟨_, rfl⟩
  have hN' := Lib.hid hN
  have hmm := @run_makeMap Try.prog
  have hpost : ∀ e w', NewPost ms fr n w L e w' → NewPost ms fr n w L e w' := fun _ _ h => h
  rw [hN] at hl ⊢
  clear hr hN
  go_enter Try.func14, Try.ntmps14
  go_wp2_with fail
  go_loop [12] (fun i => ∃ k : Nat, k ≤ N ∧ i = .int .i64 k ∧ Hid (∀ j, j < k → okAt ms j)) (fun i => N - (intOf i).toNat)
  case atStart => exact ⟨0, by omega, rfl, Lib.hid (by intro j h; omega)⟩
  case round =>
    obtain ⟨k, hk, rfl, hok⟩ := hrel
    by_cases hkn : k < N
    · have hkm : k < ms.length := by rw [hN'.out]; exact hkn
      obtain ⟨b, o, rfl, hc⟩ := cell_d hr'.out hkm
      by_cases h : okAt ms k
      · have hok2 := Lib.hid (show ∀ j, j < k + 1 → okAt ms j from fun j hj => by
          by_cases e : j = k
          · subst e; exact h
          · exact hok.out j (by omega))
        obtain ⟨h1, h2⟩ := h
        unfold prevI at h1
        by_cases h0 : k = 0
        · subst h0
          rw [if_pos rfl] at h1
          rw [Nat.add_zero] at hc
          generalize ms.getD 0 0 = y at *
          clear hok
          go_wp2_with fail
          go_round
          case rel => exact ⟨1, by omega, rfl, hok2⟩
          case measure => (simp [intOf]; try omega)
        · rw [if_neg h0] at h1
          obtain ⟨b', o', e', hc'⟩ := cell_d hr'.out (show k - 1 < ms.length by omega)
          cases e'
          have hp := hok.out (k - 1) (by omega)
          have hpos : -1 < ms.getD (k - 1) 0 := by
            have : ∀ j, j < k → -1 < ms.getD j 0 := by
              intro j
              induction j with
              | zero => intro hj; have := (hok.out 0 hj).1; simpa [prevI] using this
              | succ j ih => intro hj; have h3 := (hok.out (j + 1) hj).1; have h4 := ih (by omega); simp only [prevI, Nat.add_sub_cancel] at h3; rw [if_neg (by omega)] at h3; omega
            exact this _ (by omega)
          have e1 : (k : Int) - 1 = ((k - 1 : Nat) : Int) := by omega
          have hd : decide ((0 : Int) < (k : Int)) = true := by simp; omega
          clear hp hok
          generalize ms.getD k 0 = y at *
          generalize ms.getD (k - 1) 0 = z at *
          go_wp2_with fail
          go_round
          case rel => exact ⟨k + 1, by omega, by go_num, hok2⟩
          case measure => (simp [intOf]; try omega)
      · have hng : Hid (¬ Good ms fr n) := Lib.hid fun hg => h (hg.1 k hkm)
        have hfin : ∀ e, e = .returned (.tuple #[.pointer none, .int .i64 250]) → NewPost ms fr n w L e w := fun e he => .inl ⟨hng.out, he, rfl⟩
        have hfin' := Lib.hid hfin
        clear hfin hng
        by_cases h0 : k = 0
        · subst h0
          rw [Nat.add_zero] at hc
          have hb : ms.getD 0 0 < 0 ∨ (0 ≤ ms.getD 0 0 ∧ 64 ≤ ms.getD 0 0) := by
            unfold okAt prevI at h; rw [if_pos rfl] at h; omega
          generalize ms.getD 0 0 = y at *
          clear hok h
          rcases hb with hb | ⟨hb, hb2⟩
          · go_wp2_with fail
            go_ret2
            exact hfin'.out _ rfl
          · go_wp2_with fail
            go_ret2
            exact hfin'.out _ rfl
        · obtain ⟨b', o', e', hc'⟩ := cell_d hr'.out (show k - 1 < ms.length by omega)
          cases e'
          have e1 : (k : Int) - 1 = ((k - 1 : Nat) : Int) := by omega
          have hd : decide ((0 : Int) < (k : Int)) = true := by simp; omega
          have hb : ms.getD k 0 < 0 ∨ (0 ≤ ms.getD k 0 ∧ 64 ≤ ms.getD k 0) ∨ (0 ≤ ms.getD k 0 ∧ ms.getD k 0 < 64 ∧ ms.getD k 0 ≤ ms.getD (k - 1) 0) := by
            unfold okAt prevI at h; rw [if_neg h0] at h; omega
          generalize ms.getD k 0 = y at *
          generalize ms.getD (k - 1) 0 = z at *
          clear hok h
          rcases hb with hb | ⟨hb, hb2⟩ | ⟨hb, hb2, hb3⟩
          all_goals
            go_wp2_with fail
            go_ret2
            exact hfin'.out _ rfl
    · obtain rfl : k = N := by omega
      by_cases hg : ms ≠ [] ∧ 0 ≤ n ∧ n ≤ 1000 ∧ 0 ≤ fr ∧ fr ≤ n
      · have hG := Lib.hid (show Good ms fr n from ⟨by rw [hN'.out]; exact hok.out, hg⟩)
        obtain ⟨g1, g2, g3, g4, g5⟩ := hg
        have hk1 : 1 ≤ k := by
          have := hN'.out
          cases ms with
          | nil => exact absurd rfl g1
          | cons x l => simp at this; omega
        have hkz : ((k : Int) == 0) = false := by simp; omega
        obtain ⟨b, o, rfl, -⟩ := cell_d hr'.out (show 0 < ms.length by rw [hN'.out]; omega)
        have hc := Lib.hid (hcl.out b o rfl)
        rw [hN'.out] at hc
        clear hcl g1 hok
        go_wp2_with fail
        refine hc.out.mono ?_
        rintro e w2 ⟨a', c', rfl, H2⟩
        have H2' := Lib.hid H2
        clear hc H2
        go_wp2_with fail
        go_ret2
        refine .inr ⟨hG.out, w2.heap.size + 1, w2.heap.size, a', c', rfl, ?_⟩
        rw [hN'.out]
        have H3 := (iset_made H2'.out).alloc [.slice a' k c', .int .i64 fr, .int .i64 fr, .int .i64 n, .map (some w2.heap.size)] 65
        rw [World.size_alloc] at H3
        exact H3
      · have hfin : ∀ e, e = .returned (.tuple #[.pointer none, .int .i64 250]) → NewPost ms fr n w L e w := fun e he => .inl ⟨fun h => hg h.2, he, rfl⟩
        have hfin' := Lib.hid hfin
        have hb : k = 0 ∨ (0 < k ∧ n < 0) ∨ (0 < k ∧ 0 ≤ n ∧ 1000 < n) ∨ (0 < k ∧ 0 ≤ n ∧ n ≤ 1000 ∧ fr < 0) ∨ (0 < k ∧ 0 ≤ n ∧ n ≤ 1000 ∧ 0 ≤ fr ∧ n < fr) := by
          by_cases h0 : k = 0
          · exact .inl h0
          · have : ms ≠ [] := by rintro rfl; have := hN'.out; simp at this; omega
            simp only [this, ne_eq, not_false_eq_true, true_and] at hg
            omega
        clear hg hfin hok hcl
        rcases hb with rfl | ⟨hb, hb1⟩ | ⟨hb, hb1, hb2⟩ | ⟨hb, hb1, hb2, hb3⟩ | ⟨hb, hb1, hb2, hb3, hb4⟩
        · go_wp2_with fail
          go_ret2
          exact hfin'.out _ rfl
        all_goals
          have hkz : ((k : Int) == 0) = false := by simp; omega
          go_wp2_with fail
          go_ret2
          exact hfin'.out _ rfl
end Go.Proofs.Ytejgkehcplajhaa
