/- crc.Seal and the reference's, in pieces: bytes as numbers. -/
import Derived.Test.YtilpkfgdlehmpaaDoorFld
import Derived.Test.YtilpkfgdlehmpaaDoorCRefD
namespace Go.Proofs.YtilpkfgdlehmpaaDoor
open Go.RowKit Go.Shelf
set_option linter.unusedVariables false

def toB (bs : List Int) : List (BitVec 8) := bs.map (BitVec.ofInt 8)
theorem toB_length (bs : List Int) : (toB bs).length = bs.length := by simp [toB]
theorem toB_U {bs : List Int} (h : ∀ x ∈ bs, byteK x) : (toB bs).map Crc.U = bs := by
  unfold toB
  rw [List.map_map]
  refine (List.map_congr_left (g := id) fun x hx => ?_).trans (List.map_id bs)
  have := h x hx
  unfold byteK at this
  exact Crc.U_of 8 x this.1 (by omega)
theorem U_byte (x : BitVec 8) : byteK (Crc.U x) := ⟨Crc.U_nn x, Crc.U_lt8 x⟩
theorem cbv_eq (l : List (BitVec 8)) : Crc.bv l = bv (l.map Crc.U) := by simp [Crc.bv, bv]
theorem RdB.toB {w : World} {a : Option Addr} {bs : List Int} (h : RdB w a bs) (hy : ∀ x ∈ bs, byteK x) : Crc.RdB w a (toB bs) := by
  refine Crc.RdB.of_rd ?_
  rw [cbv_eq, toB_U hy]
  exact h.rd
/-- Bytes, sealed. -/
def sealI (bs : List Int) : List Int := (Crc.sealed (toB bs)).map Crc.U
theorem sealI_len (bs : List Int) : (sealI bs).length = bs.length + 4 := by
  unfold sealI Crc.sealed
  rw [List.length_map, List.length_append, toB_length]
  rfl
theorem sealI_bytes (bs : List Int) : ∀ x ∈ sealI bs, byteK x := by
  intro x hx
  obtain ⟨y, -, rfl⟩ := List.mem_map.1 hx
  exact U_byte y
theorem givesB_sl {w w' : World} {L : List Pc} (H : SL w L) {bs : List (BitVec 8)} {P : Value → Prop} {e : Ending} (h : Crc.GivesB w 5 bs P e w') :
    ∃ a' c', e = .returned (.slice a' (bs.map Crc.U).length c') ∧ SL w' (.own 5 1 (.slice a' (bs.map Crc.U).length c') (bs.map Crc.U).length (bv (bs.map Crc.U)) :: L) := by
  obtain ⟨v, rfl, ho, hk, -⟩ := h
  have hK : OwnK w' w.heap.size 5 1 v (bs.map Crc.U).length (bv (bs.map Crc.U)) := by
    rw [← cbv_eq, List.length_map, ← Crc.bv_length]
    exact ho
  obtain ⟨a', c', rfl, -⟩ := OwnK.slice hK
  exact ⟨a', c', rfl, H.new hk (hK.mono (Nat.zero_le _)) fun b hb => (OwnK.block hK hb).1⟩
section
variable {a : Option Addr} {n c : Nat} {bs : List Int} {w : World} {L : List Pc}
theorem seal_c (H : SL w L) (hl : bs.length = n) (hn : n ≤ 6000) (hnil : a = none → c = 0) (hb : RdB w a bs) (hy : ∀ x ∈ bs, byteK x) :
    Calls Tryd.prog 31 #[.slice a n c] w fun e w' => ∃ a' c', e = .returned (.slice a' (sealI bs).length c') ∧ SL w' (.own 5 1 (.slice a' (sealI bs).length c') (sealI bs).length (bv (sealI bs)) :: L) :=
  (Crc.seal_c a n c (toB bs) w (by rw [toB_length]; exact hl) (by rw [toB_length]; omega) hnil (hb.toB hy)).mono fun e w' h => givesB_sl H h
theorem rseal_c (H : SL w L) (hl : bs.length = n) (hn : n ≤ 6000) (hnil : a = none → c = 0) (hb : RdB w a bs) (hy : ∀ x ∈ bs, byteK x) :
    Calls Tryd.prog 34 #[.slice a n c] w fun e w' => ∃ a' c', e = .returned (.slice a' (sealI bs).length c') ∧ SL w' (.own 5 1 (.slice a' (sealI bs).length c') (sealI bs).length (bv (sealI bs)) :: L) :=
  (Crc.refSeal_c a n c (toB bs) w (by rw [toB_length]; exact hl) (by rw [toB_length]; omega) hnil (hb.toB hy)).mono fun e w' h => givesB_sl H h
end
end Go.Proofs.YtilpkfgdlehmpaaDoor
