/- The reference's reader: its pieces; End. -/
import Derived.Test.YtilpkfgdlehmpaaRdrT
namespace Go.Proofs.Ytilpkfgdlehmpaa
open Go.RowKit Go.Shelf
set_option linter.unusedVariables false

/-- The reference's reader at r holds st: bytes behind a place of those that lie in the piece (v, n, xs). -/
def RfrAt (a : Option Addr) (c : Nat) (B : List Int) (v : Value) (n : Nat) (xs : List Value) (r : Nat) (st : RdSt18) (L : List Pc) (w : World) : Prop := ∃ (k : Nat),
  SL w (.blk r [.slice a B.length c, .int .i64 k, .bool st.2] 55 :: .own 5 1 v n xs :: L) ∧ (B.length ≤ c ∧ (a = none → c = 0)) ∧ B.length ≤ 6000 ∧ k ≤ B.length ∧ st.1 = B.drop k ∧ (∀ x ∈ B, byteK x) ∧ (∀ V M, SL V (.own 5 1 v n xs :: M) → RdY V a B)

section
variable {a : Option Addr} {c : Nat} {B : List Int} {v : Value} {n : Nat} {xs : List Value} {r : Nat} {st : RdSt18} {L : List Pc} {w : World}
theorem rend_c (H : RfrAt a c B v n xs r st L w) : Calls Try.prog 21 #[ptrV r] w fun e w' => e = .returned (.int .i64 (if endK st then 0 else 50)) ∧ RfrAt a c B v n xs r st L w' := by
  have hdr : Hid (∀ m, RfrAt a c B v n xs r st L (w.drewN m)) := Lib.hid fun m => by
    obtain ⟨k, HS, h⟩ := H
    exact ⟨k, HS.drewN m, h⟩
  obtain ⟨k, HS, ⟨hlc, hnil⟩, hl6, hk, hst, hby, hrd⟩ := H
  obtain ⟨bs, lost⟩ := st
  dsimp only at *
  have c0 := HS.cell (b := r) (o := 0) (.here _ _) rfl
  have c1 := HS.cell (b := r) (o := 1) (.here _ _) rfl
  have c2 := HS.cell (b := r) (o := 2) (.here _ _) rfl
  obtain ⟨E, hE⟩ : ∃ E : Int, (if endK (bs, lost) then 0 else 50) = E := ⟨_, rfl⟩
  rw [hE]
  have hE1 : Hid (lost = true → E = 50) := Lib.hid fun h => by rw [← hE, if_neg]; rintro ⟨h1, -⟩; rw [show lost = false from h1] at h; cases h
  have hE2 : Hid (k < B.length → E = 50) := Lib.hid fun h => by
    rw [← hE, if_neg]
    rintro ⟨-, h1⟩
    have h2 : bs = [] := h1
    rw [hst] at h2
    have := List.drop_eq_nil_iff.1 h2
    omega
  have hE3 : Hid (lost = false → k = B.length → E = 0) := Lib.hid fun h h1 => by rw [← hE, if_pos]; exact ⟨h, by show bs = []; rw [hst, h1, List.drop_length]⟩
  clear HS hrd hby hE hst
  generalize B.length = N at *
  unfold ptrV at *
  cases lost with
  | true =>
    rw [hE1.out rfl]
    clear hE1 hE2 hE3
    go_enter Try.func21, Try.ntmps21
    go_wp2_with fail
    go_quiet (fail)
    have hf := Lib.hid (hdr.out nq)
    clear hdr c0 c1 c2
    go_wp2_with fail
    go_ret
    exact ⟨rfl, hf.out⟩
  | false =>
    by_cases hN : k < N
    · rw [hE2.out hN]
      have hNb : decide ((k : Int) < (N : Int)) = true := by simp; omega
      clear hE1 hE2 hE3
      go_enter Try.func21, Try.ntmps21
      go_wp2_with fail
      go_quiet (fail)
      have hf := Lib.hid (hdr.out nq)
      clear hdr c0 c1 c2
      go_wp2_with fail
      go_ret
      exact ⟨rfl, hf.out⟩
    · have hkN : k = N := by omega
      rw [hE3.out rfl hkN]
      have hNb : decide ((k : Int) < (N : Int)) = false := by simp; omega
      clear hE1 hE2 hE3 hkN
      go_enter Try.func21, Try.ntmps21
      go_wp2_with fail
      go_quiet (fail)
      have hf := Lib.hid (hdr.out nq)
      clear hdr c0 c1 c2
      go_wp2_with fail
      go_ret
      exact ⟨rfl, hf.out⟩
end
end Go.Proofs.Ytilpkfgdlehmpaa
