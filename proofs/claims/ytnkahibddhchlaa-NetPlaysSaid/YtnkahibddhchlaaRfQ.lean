/- What do asks for Peek: where the reference's one lies. -/
import Derived.Test.YtnkahibddhchlaaRfP
namespace Go.Proofs.Ytnkahibddhchlaa
open Go.RowKit Go.Shelf
set_option linter.unusedVariables false

section
variable {p y : Nat} {s : NSt} {L : List Pc} {w : World}
theorem RfIs.at_yes {N : List Pc} (h : RfIs y s N) (H : SL w (N ++ L)) (hA : allF s.n s.F ≤ 1048576) {a b j : Int} (hh : s.has a b j = true) :
    Calls Try.prog 45 #[ptrV y, .int .i64 a, .int .i64 b, .int .i64 j] w fun e w' => w = w' ∧ ∃ (i ln g c : Nat) (va : Option Addr) (vc : Nat), i < ln ∧ ln ≤ c ∧ e = .returned (.int .i64 (i : Nat)) ∧ ∀ V L, SL V (N ++ L) →
      V.cell? ⟨y, 2, none⟩ = some (.slice (some ⟨g, 0, none⟩) ln c) ∧ V.cell? ⟨g, i * 3 + 2, none⟩ = some (.slice va (s.the a b j).length vc) ∧ RdB V va (s.the a b j) ∧ (va = none → vc = 0) := by
  obtain ⟨r, sl, gs, rfl, hgs, hn, hroom, ht, hF, hk⟩ := h
  have HR : RAt y r L w := ⟨sl, gs, H, hgs⟩
  obtain ⟨a0, c0, R⟩ := HR.rd
  have hj := of_decide_eq_true hh
  rw [← hF] at hj
  refine (rat_w R (by rw [RF.len hF hk]; omega) a b j).mono ?_
  rintro e w' ⟨v, rfl, hv, rfl⟩
  obtain ⟨i, rfl, hi, e2, e3⟩ := atis_yes hv hj
  have hthe := (RF.gone hF hk hi e2 e3).2.1
  have hgl : gs.length = r.l.length := by rw [← hgs]; simp
  have hig : i < gs.length := by omega
  have hbs : (gs[i]'hig).bs = s.the a b j := by
    unfold NSt.the
    rw [← hthe]
    have : r.l[i]'hi = (gs[i]'hig).m := by simp [← hgs]
    rw [this]
    rfl
  obtain ⟨a1, c1, rfl, hc1, -, -, hcl⟩ := rg_cells H (.there (.here _ _))
  obtain ⟨g, rfl, -⟩ := hcl i hig
  obtain ⟨va, vc, hv0, -, -⟩ := rn_gr H hig
  refine ⟨rfl, i, gs.length, g, c1, va, vc, hig, hc1, rfl, fun V L' hV => ?_⟩
  obtain ⟨a2, c2, e4, -, -, -, hcl2⟩ := rg_cells hV (.there (.here _ _))
  obtain ⟨g2, e5, -, -, hcv⟩ := hcl2 i hig
  simp only [Value.slice.injEq] at e4
  obtain ⟨e6, -, -⟩ := e4
  rw [← e6] at e5
  simp only [Option.some.injEq, Addr.mk.injEq] at e5
  obtain ⟨rfl, -, -⟩ := e5
  obtain ⟨va', vc', hv1, hr, hvn⟩ := rn_gr hV hig
  rw [hv0] at hv1
  simp only [Prod.mk.injEq] at hv1
  obtain ⟨rfl, -, rfl⟩ := hv1
  rw [hv0] at hcv
  rw [hbs] at hcv hr
  exact ⟨hV.cell (b := y) (o := 2) (.here _ _) rfl, hcv, hr, hvn⟩

theorem b_bytes2 {N : List Pc} {v : SlT} {bs : List Int} (H : NAt p s (N ++ (grP ⟨v, bs⟩ :: L)) w) (hl : bs.length ≤ 1100) (b : Option Addr) (c : Nat) (hr : ∀ V L', SL V (N ++ L') → RdB V b bs) :
    Calls Try.prog 40 #[slV v, .slice b bs.length c] w fun e w' => e = .returned (.bool true) ∧ NAt p s (N ++ L) w' := by
  obtain ⟨m, xs, h1, ok, hF⟩ := H
  have h2 : SL w (grP ⟨v, bs⟩ :: (N ++ (netP p m s.n s.room s.t xs ++ L))) := h1.perm (((List.perm_append_comm_assoc _ _ _).trans ((List.perm_middle).append_left N)).trans List.perm_middle)
  refine (bytes_own h2 hl b c fun V hV => ⟨hr V _ hV, fun h => ?_⟩).mono ?_
  · subst h
    by_cases h0 : bs = []
    · exact h0
    · obtain ⟨_, _, e, _⟩ := hr V _ hV 0 (List.length_pos_iff.2 h0)
      cases e
  · rintro e w' ⟨rfl, h⟩
    exact ⟨rfl, m, xs, h.perm (List.perm_append_comm_assoc _ _ _), ok, hF⟩
end
end Go.Proofs.Ytnkahibddhchlaa
