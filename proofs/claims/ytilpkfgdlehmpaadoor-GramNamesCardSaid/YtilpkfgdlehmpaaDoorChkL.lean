/- Check: what becomes of the copy (plain law). -/
import Derived.Test.YtilpkfgdlehmpaaDoorFld
namespace Go.Proofs.YtilpkfgdlehmpaaDoor
open Go.RowKit Go.Shelf
set_option linter.unusedVariables false

/-- Cells of which those places are 0. -/
def zC (ys : List (Nat × Int)) (cs : List Value) : List Value := ys.foldl (fun cs y => cs.set y.1 (.int .u64 0)) cs
def fvK (g : Gm) (q : Nat) : Int := if q = 5 then g.seq else if q = 6 then g.ack else g.mask
def fineK (g : Gm) (ys : List (Nat × Int)) : Prop := ∀ y ∈ ys, fvK g y.1 ≤ y.2
theorem zC_snoc {ys : List (Nat × Int)} {cs : List Value} {i : Nat} (hi : i < ys.length) : zC (ys.take (i + 1)) cs = (zC (ys.take i) cs).set (ys[i]'hi).1 (.int .u64 0) := by
  rw [List.take_succ_eq_append_getElem hi]
  unfold zC
  rw [List.foldl_append]
  rfl
theorem zC_data : ∀ (ys : List (Nat × Int)) (cs : List Value), (∀ y ∈ ys, y.1 < 8) → (zC ys cs)[8]? = cs[8]?
  | [], cs, _ => rfl
  | y :: ys, cs, h => by
    have e : zC (y :: ys) cs = zC ys (cs.set y.1 (.int .u64 0)) := rfl
    rw [e, zC_data ys _ fun z hz => h z (List.mem_cons_of_mem _ hz), List.getElem?_set_ne]
    have := h y (List.mem_cons_self ..)
    omega
theorem fldN_lt (kind : Int) : ∀ y ∈ fldN kind, y.1 < 8 := by
  intro y hy
  unfold fldN at hy
  split at hy
  · cases hy
  · split at hy
    · simp at hy; rcases hy with rfl | rfl <;> decide
    · simp at hy; rcases hy with rfl | rfl | rfl <;> decide
theorem fine_snoc {g : Gm} {ys : List (Nat × Int)} {i : Nat} (hi : i < ys.length) (h : fineK g (ys.take i)) (h1 : fvK g (ys[i]'hi).1 ≤ (ys[i]'hi).2) : fineK g (ys.take (i + 1)) := by
  rw [List.take_succ_eq_append_getElem hi]
  intro y hy
  rcases List.mem_append.1 hy with hy | hy
  · exact h y hy
  · rw [List.mem_singleton.1 hy]; exact h1
theorem fldN_len (kind : Int) : (fldN kind).length ≤ 3 := by unfold fldN; split; · decide
                                                             split <;> decide
theorem fld_at {kind : Int} {g : Gm} {d : Value} {i : Nat} (hi : i < (fldN kind).length) :
    (zC ((fldN kind).take i) (gmC g d))[((fldN kind)[i]'hi).1]? = some (.int .u64 (fvK g ((fldN kind)[i]'hi).1)) ∧ ((fldN kind)[i]'hi).1 < 8 := by
  have h3 := fldN_len kind
  have hc : kind = 1 ∨ kind = 3 ∨ (¬ kind = 1 ∧ ¬ kind = 3) := by omega
  have hi3 : i = 0 ∨ i = 1 ∨ i = 2 := by omega
  unfold fldN at *
  rcases hc with rfl | rfl | ⟨h1, h2⟩
  · simp at hi
  · rcases hi3 with rfl | rfl | rfl
    · exact ⟨rfl, by simp⟩
    · exact ⟨rfl, by simp⟩
    · simp at hi
  · simp only [if_neg h1, if_neg h2] at *
    rcases hi3 with rfl | rfl | rfl <;> exact ⟨rfl, by simp⟩
/-- What is left of it. -/
def gZ (g : Gm) : Gm := { g with seq := if g.kind = 1 ∨ g.kind = 3 then g.seq else 0, ack := if g.kind = 1 then g.ack else 0, mask := if g.kind = 1 then g.mask else 0 }
theorem zC_all (g : Gm) (d : Value) : zC (fldN g.kind) (gmC g d) = gmC (gZ g) d := by
  have hc : g.kind = 1 ∨ g.kind = 3 ∨ (¬ g.kind = 1 ∧ ¬ g.kind = 3) := by omega
  unfold fldN gZ
  rcases hc with h | h | ⟨h1, h2⟩
  · simp [h, gmC, zC]
  · simp [h, gmC, zC]
  · simp [h1, h2, gmC, zC]
def U64 (z : Int) : Prop := 0 ≤ z ∧ z < 18446744073709551616
theorem or_nat {a b : Nat} (ha : a < 18446744073709551616) (hb : b < 18446744073709551616) : bits .or .u64 (a : Int) (b : Int) = ((a ||| b : Nat) : Int) ∧ a ||| b < 18446744073709551616 := by
  have h : a ||| b < 2 ^ 64 := Nat.or_lt_two_pow (by simpa using ha) (by simpa using hb)
  have h' : a ||| b < 18446744073709551616 := by simpa using h
  refine ⟨?_, h'⟩
  show IntKind.u64.wrap (((BitVec.ofInt 64 (a : Int) ||| BitVec.ofInt 64 (b : Int)).toNat : Nat) : Int) = _
  rw [BitVec.ofInt_natCast, BitVec.ofInt_natCast, BitVec.toNat_or, BitVec.toNat_ofNat, BitVec.toNat_ofNat, Nat.mod_eq_of_lt (by simpa using ha), Nat.mod_eq_of_lt (by simpa using hb)]
  clear h
  generalize a ||| b = z at *
  unfold IntKind.wrap
  simp [IntKind.bits, IntKind.signed]
  omega
theorem or_zero {a b : Int} (ha : U64 a) (hb : U64 b) : (bits .or .u64 a b = 0 ↔ a = 0 ∧ b = 0) ∧ U64 (bits .or .u64 a b) := by
  obtain ⟨m, rfl⟩ := Int.eq_ofNat_of_zero_le ha.1
  obtain ⟨k, rfl⟩ := Int.eq_ofNat_of_zero_le hb.1
  obtain ⟨h1, h2⟩ := or_nat (a := m) (b := k) (by have := ha.2; omega) (by have := hb.2; omega)
  rw [h1]
  refine ⟨?_, by unfold U64; omega⟩
  have := @Nat.or_eq_zero_iff m k
  omega
def I64 (z : Int) : Prop := -9223372036854775808 ≤ z ∧ z ≤ 9223372036854775807
structure GmOk (g : Gm) : Prop where
  fr : I64 g.fr
  dst : I64 g.dst
  kind : I64 g.kind
  n : U64 g.n
  by' : I64 g.by'
  seq : U64 g.seq
  ack : U64 g.ack
  mask : U64 g.mask
  data : ∀ x ∈ g.data, byteK x
def orK (g : Gm) : Int := bits .or .u64 (bits .or .u64 (gZ g).seq (gZ g).ack) (gZ g).mask
theorem gZ_ok {g : Gm} (ok : GmOk g) : U64 (gZ g).seq ∧ U64 (gZ g).ack ∧ U64 (gZ g).mask := by
  have z : U64 0 := by unfold U64; omega
  unfold gZ
  dsimp only
  refine ⟨?_, ?_, ?_⟩
  · split; exact ok.seq; exact z
  · split; exact ok.ack; exact z
  · split; exact ok.mask; exact z
theorem orK_zero {g : Gm} (ok : GmOk g) : orK g = 0 ↔ (gZ g).seq = 0 ∧ (gZ g).ack = 0 ∧ (gZ g).mask = 0 := by
  obtain ⟨h1, h2, h3⟩ := gZ_ok ok
  unfold orK
  rw [(or_zero (or_zero h1 h2).2 h3).1, (or_zero h1 h2).1, and_assoc]
theorem check_fine {g : Gm} (hk : 1 ≤ g.kind ∧ g.kind ≤ 3) (ok : GmOk g) (hf : fineK g (fldN g.kind)) (h0 : orK g = 0) (hd : g.kind = 2 ∧ g.data.length ≤ 900 ∨ g.data.length = 0) : formK g := by
  rw [orK_zero ok] at h0
  unfold formK
  have hc : g.kind = 1 ∨ g.kind = 2 ∨ g.kind = 3 := by omega
  unfold gZ at h0
  dsimp only at h0
  rcases hc with h | h | h
  · rw [h] at h0 hd
    simp at h0
    have hd' : g.data.length = 0 := by omega
    exact .inl ⟨h, h0.1, h0.2.1, h0.2.2, List.eq_nil_of_length_eq_zero hd'⟩
  · rw [h] at hf
    have h1 := hf (5, 4611686018427387903) (by simp [fldN])
    have h2 := hf (6, 4611686018427387904) (by simp [fldN])
    have h3 := hf (7, 9223372036854775807) (by simp [fldN])
    simp [fvK] at h1 h2 h3
    exact .inr (.inl ⟨h, by omega, h2, by omega, by rcases hd with h | h; exact h.2; omega⟩)
  · rw [h] at hf h0 hd
    have h2 := hf (6, 4611686018427387904) (by simp [fldN])
    have h3 := hf (7, 9223372036854775807) (by simp [fldN])
    simp [fvK] at h2 h3
    simp at h0
    have hd' : g.data.length = 0 := by omega
    exact .inr (.inr ⟨h, h0, h2, by omega, List.eq_nil_of_length_eq_zero hd'⟩)
theorem check_or {g : Gm} (ok : GmOk g) (h0 : ¬ orK g = 0) : ¬ formK g := by
  rw [orK_zero ok] at h0
  intro h
  apply h0
  unfold formK at h
  unfold gZ
  dsimp only
  rcases h with ⟨h, h1, h2, h3, -⟩ | ⟨h, -⟩ | ⟨h, h1, -⟩
  · simp [h, h1, h2, h3]
  · simp [h]
  · simp [h, h1]
theorem check_data {g : Gm} (hd : ¬ (g.kind = 2 ∧ g.data.length ≤ 900 ∨ g.data.length = 0)) : ¬ formK g := by
  unfold formK
  rintro (⟨-, -, -, -, h⟩ | ⟨h1, -, -, -, h⟩ | ⟨-, -, -, -, h⟩)
  · rw [h] at hd; exact hd (.inr rfl)
  · exact hd (.inl ⟨h1, h⟩)
  · rw [h] at hd; exact hd (.inr rfl)
theorem check_most {g : Gm} (ok : GmOk g) {i : Nat} (hi : i < (fldN g.kind).length) (h : ¬ fvK g ((fldN g.kind)[i]'hi).1 ≤ ((fldN g.kind)[i]'hi).2) : ¬ formK g := by
  intro hf
  apply h
  have hm := List.getElem_mem hi
  unfold formK at hf
  generalize (fldN g.kind)[i]'hi = y at *
  rcases hf with ⟨h, -⟩ | ⟨h, h1, h2, h3, -⟩ | ⟨h, -, h2, h3, -⟩
  · rw [h] at hm; simp [fldN] at hm
  · rw [h] at hm
    simp [fldN] at hm
    rcases hm with rfl | rfl | rfl <;> simp [fvK] <;> omega
  · rw [h] at hm
    simp [fldN] at hm
    rcases hm with rfl | rfl <;> simp [fvK] <;> omega
end Go.Proofs.YtilpkfgdlehmpaaDoor
