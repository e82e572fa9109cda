/- What GramNames calls: wrong; and which of its datagrams may be. -/
import Derived.Test.YtilpkfgdlehmpaaDoorGmW
namespace Go.Proofs.YtilpkfgdlehmpaaDoor
open Go.RowKit Go.Shelf
set_option linter.unusedVariables false

theorem decR_seal {l : List Int} (hy : ∀ x ∈ l, byteK x) (hd : decK l = none) : decR (sealI l) = (Gm0, 180) := by
  obtain ⟨h1, h2⟩ := openB_seal hy
  unfold decR
  rw [h1, h2, if_pos rfl, hd]
set_option maxRecDepth 100000 in
set_option maxHeartbeats 4000000 in
theorem wrong_c {L : List Pc} {w : World} (H : SL w L) (S : ByteArray) (l : List Int) (hS : S.data.toList.map (fun b => (b.toNat : Int)) = l) (hy : ∀ x ∈ l, byteK x) (hl : l.length ≤ 1000) (hd : decK l = none) :
    Calls Tryd.prog 23 #[.string S] w fun e w' => e = .returned (.bool true) ∧ SL w' L := by
  obtain ⟨c1, w1, o, hrun, H1, hrd⟩ := conv_strS H S l hS
  have hR := decR_seal hy hd
  have hIl := sealI_len l
  have hIy := sealI_bytes l
  have hsl := seal_c (c := c1) H1 rfl (by omega) (fun h => by cases h) hrd hy
  obtain ⟨m, hm⟩ : ∃ m, l.length = m := ⟨_, rfl⟩
  rw [hm] at hrun hsl hIl hl
  obtain ⟨N, hN⟩ : ∃ N, (sealI l).length = N := ⟨_, rfl⟩
  have hNl : N ≤ 1004 := by omega
  have hN' := Lib.hid hN
  rw [hN] at hsl
  have hsl' := Lib.hid hsl
  have hR' := Lib.hid hR
  have hIy' := Lib.hid hIy
  clear hsl hR hIy hIl hS hy hd hrd hN hm H
  go_enter Tryd.func23, Tryd.ntmps23
  go_wp2_with fail
  refine hsl'.out.mono ?_
  rintro e w2 ⟨a', c', rfl, H2⟩
  have hH := Lib.hid H2
  obtain ⟨f1, f2, f3, f4⟩ := own_facts H2 (.here _ _)
  have f2' := Lib.hid f2
  have f4' := Lib.hid f4
  clear hsl' H2 f2 f4 hrun H1
  go_wp2_with fail
  refine (dec_s Gm0 180 hH.out hR'.out hN'.out (by omega) f1 f2'.out f4'.out hIy'.out 0 rfl).mono ?_
  rintro e w3 ⟨ja, jc, rfl, H3⟩
  clear hH
  dsimp only [Gm0]
  have H := H3.alloc [.int .i64 0, .int .i64 0, .int .i64 0, .int .u64 0, .int .i64 0, .int .u64 0, .int .u64 0, .int .u64 0, .slice ja 0 jc] 25
  obtain ⟨y0, y1, y2, y3, y4, y5, y6, y7, y8⟩ := gm_cells (g := Gm0) H (.here _ _)
  dsimp only [List.toArray, Gm0] at y0 y1 y2 y3 y4 y5 y6 y7 y8
  have hH := Lib.hid H
  clear H H3
  go_wp2_with fail
  refine (same_s Gm0 Gm0 ja none 0 jc 0 0 hH.out rfl rfl (by omega) gm0_bytes gm0_bytes (fun V hV i hi => (by cases hi)) (fun V hV i hi => (by cases hi)) true (by simp)).mono ?_
  rintro e w4 ⟨rfl, H⟩
  clear y0 y1 y2 y3 y4 y5 y6 y7 y8 hH
  have hH := Lib.hid H
  clear H
  go_wp2_with fail
  go_ret
  exact ⟨rfl, hH.out.tail.tail.tail.tail⟩

def zs (n : Nat) : List Int := List.replicate n 0
def gBad : Nat → Gm
  | 0 => ⟨0, 0, 0, 0, 0, 0, 0, 0, []⟩
  | 1 => ⟨1, 0, 0, 0, 0, 0, 0, 0, []⟩
  | 2 => ⟨1, 1, 1, 0, 0, 0, 0, 0, []⟩
  | 3 => ⟨3, 0, 1, 0, 0, 1, 0, 0, []⟩
  | 4 => ⟨4, 0, 1, 0, 0, 0, 0, 0, []⟩
  | 5 => ⟨1, 0, 64, 0, 0, 0, 0, 0, []⟩
  | 6 => ⟨1, 0, 1, 0, -1, 0, 0, 0, []⟩
  | 7 => ⟨1, 0, 1, 0, 0, 0, 1, 0, []⟩
  | 8 => ⟨3, 0, 1, 0, 0, 0, 0, 0, [1]⟩
  | 9 => ⟨2, 0, 1, 0, 0, 4611686018427387904, 0, 0, []⟩
  | 10 => ⟨2, 0, 1, 0, 0, 0, 4611686018427387905, 0, []⟩
  | 11 => ⟨3, 0, 1, 0, 0, 0, 0, 9223372036854775808, []⟩
  | _ => ⟨2, 0, 1, 0, 0, 0, 0, 0, zs 901⟩
def gFine : Nat → Gm
  | 0 => ⟨2, 0, 1, 0, 0, 4611686018427387903, 4611686018427387904, 9223372036854775807, zs 900⟩
  | 1 => ⟨3, 63, 0, 18446744073709551615, 63, 0, 0, 0, []⟩
  | _ => ⟨1, 0, 1, 0, 0, 0, 0, 0, []⟩
theorem zs_len (n : Nat) : (zs n).length = n := by simp [zs]
theorem zs_bytes (n : Nat) : ∀ x ∈ zs n, byteK x := by
  intro x hx
  rw [List.eq_of_mem_replicate hx]
  unfold byteK; omega
theorem gBad_ok : ∀ k, GmOk (gBad k) := by
  intro k
  match k with
  | 0 | 1 | 2 | 3 | 4 | 5 | 6 | 7 | 9 | 10 | 11 => constructor <;> (first | (unfold I64; decide) | (unfold U64; decide) | (intro x hx; cases hx))
  | 8 => constructor <;> (first | (unfold I64; decide) | (unfold U64; decide) | (intro x hx; simp [gBad] at hx; unfold byteK; omega))
  | k + 12 => constructor <;> (first | (unfold I64; show (_ : Int) ≤ _ ∧ _ ≤ _; simp only [gBad]; decide) | (unfold U64; simp only [gBad]; decide) | (intro x hx; exact zs_bytes 901 x hx))
theorem gBad_no : ∀ k, ¬ mayK (gBad k) := by
  intro k
  match k with
  | 0 | 1 | 2 | 3 | 4 | 5 | 6 | 7 | 8 | 9 | 10 | 11 => decide
  | k + 12 =>
    rintro ⟨-, -, -, -, h⟩
    have e : (gBad (k + 12)).data.length = 901 := by simp only [gBad]; exact zs_len 901
    rcases h with ⟨-, -, -, -, h⟩ | ⟨-, -, -, -, h⟩ | ⟨-, -, -, -, h⟩
    · rw [h] at e; cases e
    · omega
    · rw [h] at e; cases e
theorem gFine_ok : ∀ k, GmOk (gFine k) := by
  intro k
  match k with
  | 0 => constructor <;> (first | (unfold I64; decide) | (unfold U64; decide) | (intro x hx; exact zs_bytes 900 x hx))
  | 1 => constructor <;> (first | (unfold I64; decide) | (unfold U64; decide) | (intro x hx; cases hx))
  | k + 2 => constructor <;> (first | (unfold I64; simp only [gFine]; decide) | (unfold U64; simp only [gFine]; decide) | (intro x hx; cases hx))
theorem gFine_may : ∀ k, mayK (gFine k) := by
  intro k
  match k with
  | 0 =>
    refine ⟨by decide, by decide, by decide, by decide, .inr (.inl ⟨by decide, by decide, by decide, by decide, ?_⟩)⟩
    exact Nat.le_of_eq (zs_len 900)
  | 1 => decide
  | k + 2 => show mayK ⟨1, 0, 1, 0, 0, 0, 0, 0, []⟩; decide
theorem wr1 : decK [1, 1, 2, 172, 2] = none := by decide +kernel
theorem wr2 : decK [1, 1, 2, 172, 2, 1, 0] = none := by decide +kernel
theorem wr3 : decK [0, 1, 2, 0, 0] = none := by decide +kernel
theorem wr4 : decK [1, 1, 1, 0, 0] = none := by decide +kernel
theorem wr5 : decK [3, 1, 2, 0, 0, 0] = none := by decide +kernel
theorem wr6 : decK [1, 64, 2, 0, 0] = none := by decide +kernel
theorem wr7 : decK [] = none := by decide +kernel
end Go.Proofs.YtilpkfgdlehmpaaDoor
