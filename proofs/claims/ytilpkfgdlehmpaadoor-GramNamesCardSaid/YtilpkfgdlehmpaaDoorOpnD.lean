/- crc.Open and the reference's, in pieces: bytes as numbers. -/
import Derived.Test.YtilpkfgdlehmpaaDoorRdrT
import Derived.Test.YtilpkfgdlehmpaaDoorSealS
namespace Go.Proofs.YtilpkfgdlehmpaaDoor
open Go.RowKit Go.Shelf
set_option linter.unusedVariables false

/-- What is sealed in bytes; the error. -/
def openB (bs : List Int) : List Int := (Crc.opened (toB bs)).map Crc.U
def openZ (bs : List Int) : Int := Crc.openE (toB bs)
theorem openZ_or (bs : List Int) : openZ bs = 0 ∨ openZ bs = 40 := by unfold openZ Crc.openE; split <;> simp
theorem openB_le (bs : List Int) : (openB bs).length ≤ bs.length := by
  unfold openB Crc.opened
  rw [List.length_map]
  split
  · rw [List.length_take, toB_length]; omega
  · simp
theorem openB_bytes (bs : List Int) : ∀ x ∈ openB bs, byteK x := by
  intro x hx
  obtain ⟨y, -, rfl⟩ := List.mem_map.1 hx
  exact U_byte y

theorem gives_sl {w w' : World} {L : List Pc} (H : SL w L) {bs : List (BitVec 8)} {n : Int} {e : Ending} (h : Crc.GivesBE w 5 bs n e w') :
    ∃ a' c', e = .returned (.tuple #[.slice a' (bs.map Crc.U).length c', .int .i64 n]) ∧ SL w' (.own 5 1 (.slice a' (bs.map Crc.U).length c') (bs.map Crc.U).length (bv (bs.map Crc.U)) :: L) := by
  obtain ⟨v, rfl, ho, hk⟩ := h
  have hK : OwnK w' w.heap.size 5 1 v (bs.map Crc.U).length (bv (bs.map Crc.U)) := by
    rw [← cbv_eq, List.length_map, ← Crc.bv_length]
    exact ho
  obtain ⟨a', c', rfl, -⟩ := OwnK.slice hK
  exact ⟨a', c', rfl, H.new hk (hK.mono (Nat.zero_le _)) fun b hb => (OwnK.block hK hb).1⟩
section
variable {a : Option Addr} {n c : Nat} {bs : List Int} {w : World} {L : List Pc}
theorem opn_c (H : SL w L) (hl : bs.length = n) (hn : n ≤ 6000) (hc : n ≤ c) (hcm : c ≤ 9223372036854775807) (hb : RdB w a bs) (hy : ∀ x ∈ bs, byteK x) :
    Calls Tryd.prog 43 #[.slice a n c] w fun e w' => ∃ a' c', e = .returned (.tuple #[.slice a' (openB bs).length c', .int .i64 (openZ bs)]) ∧ SL w' (.own 5 1 (.slice a' (openB bs).length c') (openB bs).length (bv (openB bs)) :: L) :=
  (Crc.open_c a n c (toB bs) w (by rw [toB_length]; exact hl) (by rw [toB_length]; omega) hc hcm (hb.toB hy)).mono fun e w' h => gives_sl H h
end
end Go.Proofs.YtilpkfgdlehmpaaDoor
