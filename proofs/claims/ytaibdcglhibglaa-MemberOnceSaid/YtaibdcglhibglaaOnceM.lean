/- What is read of six members and the views, in memory. -/
import Derived.Test.YtaibdcglhibglaaOnceS
import Derived.Test.YtaibdcglhibglaaJoinsL
namespace Go.Proofs.Ytaibdcglhibglaa
open Go.RowKit
set_option linter.unusedVariables false
set_option linter.unusedSimpArgs false

def vcells (v : Vw) : List Value := [.int .u32 v.N, .int .i64 v.By, .slice v.a v.ms.length v.c]
def vint (v : Vw) : Pc := .own 3 1 (.slice v.a v.ms.length v.c) v.ms.length (iv v.ms)
/-- What stands behind the members: their pointers, the views, their members, what came in. -/
def TT (mb mc : Nat) (p : Nat → Nat) (vs : List Vw) (va : Option Addr) (vc : Nat) (w : World) : List Pc :=
  .own 35 1 (.slice (some ⟨mb, 0, none⟩) 6 mc) 6 (pv p 6) :: .own 34 3 (.slice va vs.length vc) vs.length (vs.flatMap vcells) :: (vs.map vint ++ [.old w no])

structure OnceI (x : Nat → St) (vs : List Vw) : Prop where
  vsi : VsI vs
  one : ∀ i, i < 6 → OneI i vs (x i)

def OnceR (mb mc : Nat) (p : Nat → Nat) (vs : List Vw) (va : Option Addr) (vc : Nat) (w : World) (V : World) : Prop :=
  vs.length ≤ 200 ∧ ∃ (g : Nat → Pl) (x : Nat → St), OnceI x vs ∧ SL V (ALLN 6 p g x (TT mb mc p vs va vc w))

/-- Behind an act of the a-th member, which was y. -/
def OnceX (mb mc : Nat) (p : Nat → Nat) (vs : List Vw) (va : Option Addr) (vc : Nat) (w : World) (E : List Pc) (a : Nat) (y : St) (V : World) : Prop :=
  ∃ (g : Nat → Pl) (x : Nat → St), OnceI x vs ∧ Seen y (x a) ∧ SL V (ALLN 6 p g x (E ++ TT mb mc p vs va vc w))

section
variable {mb mc : Nat} {p : Nat → Nat} {vs : List Vw} {va : Option Addr} {vc : Nat} {w V : World} {E : List Pc}
theorem tt_kp (H : SL V (TT mb mc p vs va vc w)) : Kp no w V := H.all (.old w no) (by simp [TT])
theorem ett_kp (H : SL V (E ++ TT mb mc p vs va vc w)) : Kp no w V := H.all (.old w no) (by simp [TT])
theorem ett_ptr (H : SL V (E ++ TT mb mc p vs va vc w)) {i : Nat} (hi : i < 6) : V.cell? ⟨mb, i, none⟩ = some (.pointer (some ⟨p i, 0, none⟩)) := by
  have h : OwnK V 0 35 1 (.slice (some ⟨mb, 0, none⟩) 6 mc) 6 (pv p 6) := H.all (.own 35 1 (.slice (some ⟨mb, 0, none⟩) 6 mc) 6 (pv p 6)) (by simp [TT])
  exact (own_cell h hi).1.trans (by rw [pv_get p hi])

theorem vflat_get : ∀ {vs : List Vw} {k : Nat} (h : k < vs.length), (vs.flatMap vcells).getD (k * 3) undef = .int .u32 (vs[k]'h).N ∧ (vs.flatMap vcells).getD (k * 3 + 1) undef = .int .i64 (vs[k]'h).By ∧
    (vs.flatMap vcells).getD (k * 3 + 2) undef = .slice (vs[k]'h).a (vs[k]'h).ms.length (vs[k]'h).c
  | [], k, h => by simp at h
  | v :: vs, 0, h => by simp [vcells]
  | v :: vs, k + 1, h => by
    have ih := vflat_get (vs := vs) (k := k) (by simpa using h)
    have e : ∀ j, ((v :: vs).flatMap vcells).getD (3 + j) undef = (vs.flatMap vcells).getD j undef := by
      intro j
      rw [List.flatMap_cons, List.getD_eq_getElem?_getD, List.getD_eq_getElem?_getD, List.getElem?_append_right (by simp [vcells])]
      simp [vcells]
    rw [show (k + 1) * 3 = 3 + k * 3 by omega, Nat.add_assoc, Nat.add_assoc, e, e, e]
    simpa using ih
theorem vflat_length (vs : List Vw) : (vs.flatMap vcells).length = vs.length * 3 := by
  induction vs with
  | nil => rfl
  | cons v vs ih => rw [List.flatMap_cons, List.length_append, ih]; simp [vcells]; omega

theorem ett_view (H : SL V (E ++ TT mb mc p vs va vc w)) {k : Nat} (hk : k < vs.length) : ∃ vb, va = some ⟨vb, 0, none⟩ ∧ V.cell? ⟨vb, k * 3, none⟩ = some (.int .u32 (vs[k]'hk).N) ∧ V.cell? ⟨vb, k * 3 + 1, none⟩ = some (.int .i64 (vs[k]'hk).By) ∧
    V.cell? ⟨vb, k * 3 + 2, none⟩ = some (.slice (vs[k]'hk).a (vs[k]'hk).ms.length (vs[k]'hk).c) ∧ RdI V (vs[k]'hk).a (vs[k]'hk).ms := by
  have h : OwnK V 0 34 3 (.slice va vs.length vc) vs.length (vs.flatMap vcells) := H.all (.own 34 3 (.slice va vs.length vc) vs.length (vs.flatMap vcells)) (by simp [TT])
  have hi : OwnK V 0 3 1 (.slice (vs[k]'hk).a (vs[k]'hk).ms.length (vs[k]'hk).c) (vs[k]'hk).ms.length (iv (vs[k]'hk).ms) :=
    H.all (vint (vs[k]'hk)) (List.mem_append_right _ (List.mem_cons_of_mem _ (List.mem_cons_of_mem _ (List.mem_append_left _ (List.mem_map_of_mem (List.getElem_mem hk))))))
  rcases OwnK.form h with ⟨_, h0, _⟩ | ⟨g0, cap, h, _, _, _, _, _, h6, _⟩
  · omega
  · simp only [Value.slice.injEq] at h
    obtain ⟨rfl, -, -⟩ := h
    obtain ⟨f1, f2, f3⟩ := vflat_get hk
    exact ⟨g0, rfl, by rw [h6 _ (by omega), f1], by rw [h6 _ (by omega), f2], by rw [h6 _ (by omega), f3], (OwnK.rdI hi).2.2⟩
end

theorem elemV : ElemK Try.prog 26 34 3 (.agg #[.int .u32 0, .int .i64 0, .slice none 0 0]) 40 := ⟨by kernel_rfl, by kernel_rfl, rfl, by decide⟩
section
variable {n mb mc : Nat} {p : Nat → Nat} {g : Nat → Pl} {x : Nat → St} {vs : List Vw} {va : Option Addr} {vc : Nat} {w V : World} {A : List Pc}
theorem tt_front (H : SL V (ALLN n p g x (A ++ TT mb mc p vs va vc w))) :
    SL V (.own 34 3 (.slice va vs.length vc) vs.length (vs.flatMap vcells) :: ALLN n p g x (A ++ (.own 35 1 (.slice (some ⟨mb, 0, none⟩) 6 mc) 6 (pv p 6) :: (vs.map vint ++ [.old w no])))) := by
  refine H.perm ?_
  unfold ALLN TT
  have h := List.perm_middle (l₁ := (List.range n).flatMap (ONE p g x) ++ (A ++ [.own 35 1 (.slice (some ⟨mb, 0, none⟩) 6 mc) 6 (pv p 6)])) (a := Pc.own 34 3 (.slice va vs.length vc) vs.length (vs.flatMap vcells)) (l₂ := vs.map vint ++ [.old w no])
  simpa using h
theorem tt_grow {u : Vw} (H : SL V (.own 34 3 (.slice va (vs.length + 1) vc) (vs.length + 1) (vs.flatMap vcells ++ vcells u) :: ALLN n p g x (vint u :: (A ++ (.own 35 1 (.slice (some ⟨mb, 0, none⟩) 6 mc) 6 (pv p 6) :: (vs.map vint ++ [.old w no])))))) :
    SL V (ALLN n p g x (A ++ TT mb mc p (vs ++ [u]) va vc w)) := by
  refine H.perm ?_
  unfold ALLN TT
  rw [List.length_append, List.length_singleton, List.flatMap_append, List.map_append]
  have e1 : [u].flatMap vcells = vcells u := by simp
  rw [e1]
  have h := List.perm_middle (l₁ := (List.range n).flatMap (ONE p g x) ++ (A ++ [.own 35 1 (.slice (some ⟨mb, 0, none⟩) 6 mc) 6 (pv p 6)])) (a := Pc.own 34 3 (.slice va (vs.length + 1) vc) (vs.length + 1) (vs.flatMap vcells ++ vcells u)) (l₂ := vs.map vint ++ ([u].map vint ++ [.old w no]))
  refine List.Perm.trans (List.Perm.cons _ ?_) (by simpa using h.symm)
  have h2 := List.perm_middle (l₁ := (List.range n).flatMap (ONE p g x)) (a := vint u) (l₂ := A ++ (.own 35 1 (.slice (some ⟨mb, 0, none⟩) 6 mc) 6 (pv p 6) :: (vs.map vint ++ [.old w no])))
  have h3 := List.perm_middle (l₁ := (List.range n).flatMap (ONE p g x) ++ (A ++ (.own 35 1 (.slice (some ⟨mb, 0, none⟩) 6 mc) 6 (pv p 6) :: vs.map vint))) (a := vint u) (l₂ := [.old w no])
  refine h2.trans ?_
  refine List.Perm.trans ?_ (by simpa using h3.symm)
  simp
end

theorem mod6 (A : Int) : ∃ (z : Int) (a : Nat), A.tmod 6 = z ∧ -6 < z ∧ z < 6 ∧ z % 6 = a ∧ (z + 6) % 6 = a ∧ a < 6 := by
  refine ⟨A.tmod 6, (A.tmod 6 % 6).toNat, rfl, ?_, ?_, ?_, ?_, ?_⟩ <;> (have := Int.tmod_lt_of_pos A (show (0 : Int) < 6 by omega); have := Int.lt_tmod_of_pos A (show (0 : Int) < 6 by omega); omega)

theorem modN (N : Int) (L : Nat) (hL : 0 < L) : ∃ (z : Int) (i : Nat), N.tmod L = z ∧ -(L : Int) < z ∧ z < L ∧ z % L = i ∧ (z + L) % L = i ∧ i < L := by
  have h1 := Int.tmod_lt_of_pos N (show (0 : Int) < L by omega)
  have h2 := Int.lt_tmod_of_pos N (show (0 : Int) < L by omega)
  have h3 := Int.emod_nonneg (N.tmod L) (show (L : Int) ≠ 0 by omega)
  have h4 := Int.emod_lt_of_pos (N.tmod L) (show (0 : Int) < L by omega)
  refine ⟨N.tmod L, (N.tmod L % L).toNat, rfl, h2, h1, by omega, ?_, by omega⟩
  rw [Int.add_emod_right]
  omega

theorem OneI.N_in {i : Nat} {vs : List Vw} {y : St} (h : OneI i vs y) (hv : VsI vs) : 0 ≤ y.N ∧ y.N ≤ 4294967295 := by
  rcases h.of with ⟨h, -, -⟩ | ⟨v, hm, h, -, -⟩
  · rw [h]; omega
  · have := hv.pos v hm; omega

theorem OnceI.upd {x : Nat → St} {vs : List Vw} (h : OnceI x vs) {a : Nat} {z : St} (hz : OneI a vs z) : OnceI (upd x a z) vs :=
  ⟨h.vsi, fun i hi => by
    by_cases e : i = a
    · subst e; rw [upd_same]; exact hz
    · rw [upd_other _ _ e]; exact h.one i hi⟩
theorem OnceI.grow {x : Nat → St} {vs : List Vw} (h : OnceI x vs) {a : Nat} {u : Vw} (hv : VsI (vs ++ [u])) (hu : u.By = a) {z : St} (hz : OneI a (vs ++ [u]) z) : OnceI (Go.Proofs.Ytaibdcglhibglaa.upd x a z) (vs ++ [u]) :=
  ⟨hv, fun i hi => by
    by_cases e : i = a
    · subst e; rw [upd_same]; exact hz
    · rw [upd_other _ _ e]; exact OneI.more (y := z) (h.one i hi) e hu⟩
end Go.Proofs.Ytaibdcglhibglaa
