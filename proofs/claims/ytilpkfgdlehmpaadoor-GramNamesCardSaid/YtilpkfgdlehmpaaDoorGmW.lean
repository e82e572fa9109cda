/- What the walks of Back, Apart and Spoilt share: cells of a datagram, bytes of the call's own, Encode and Decode told by cases. -/
import Derived.Test.YtilpkfgdlehmpaaDoorAliveG
namespace Go.Proofs.YtilpkfgdlehmpaaDoor
open Go.RowKit Go.Shelf
set_option linter.unusedVariables false

theorem gm_cells {W : World} {M M' : List Pc} {X : Nat} {g : Gm} {d : Value} (H : SL W M) (hp : Pull M (.blk X (gmC g d) 25) M') :
    W.cell? ⟨X, 0, none⟩ = some (.int .i64 g.fr) ∧ W.cell? ⟨X, 1, none⟩ = some (.int .i64 g.dst) ∧ W.cell? ⟨X, 2, none⟩ = some (.int .i64 g.kind) ∧ W.cell? ⟨X, 3, none⟩ = some (.int .u64 g.n) ∧ W.cell? ⟨X, 4, none⟩ = some (.int .i64 g.by') ∧ W.cell? ⟨X, 5, none⟩ = some (.int .u64 g.seq) ∧ W.cell? ⟨X, 6, none⟩ = some (.int .u64 g.ack) ∧ W.cell? ⟨X, 7, none⟩ = some (.int .u64 g.mask) ∧ W.cell? ⟨X, 8, none⟩ = some d := by
  unfold gmC at hp
  exact ⟨H.cell (o := 0) hp rfl, H.cell (o := 1) hp rfl, H.cell (o := 2) hp rfl, H.cell (o := 3) hp rfl, H.cell (o := 4) hp rfl, H.cell (o := 5) hp rfl, H.cell (o := 6) hp rfl, H.cell (o := 7) hp rfl, H.cell (o := 8) hp rfl⟩
theorem own_facts {W : World} {M M' : List Pc} {a : Option Addr} {m n c : Nat} {l : List Int} (H : SL W M) (hp : Pull M (.own 5 1 (.slice a m c) n (bv l)) M') : m ≤ c ∧ c ≤ 9223372036854775807 ∧ (a = none → c = 0) ∧ RdB W a l := by
  have h : OwnK W 0 5 1 (.slice a m c) n (bv l) := H.all _ hp.mem
  obtain ⟨a', c', e, h1, h2, h3, -, -⟩ := h.slice
  cases e
  exact ⟨h1, h2, h3, h.rdB.2.2⟩
theorem great_s (g : Gm) (a : Option Addr) (n c : Nat) {L : List Pc} {w : World} (H : SL w L) (hn : n ≤ 1000) : Calls Tryd.prog 8 #[gmV g (.slice a n c)] w fun e w' => e = .returned (.bool false) ∧ SL w' L :=
  (great_c g _ a n c w rfl).mono fun e w' h => ⟨by rw [h.1, show decide ((1000 : Int) < n) = false by simp; omega], H.quiet h.2⟩
theorem enc_yes (g : Gm) (ok : GmOk g) (hm : mayK g) (a : Option Addr) (n c N : Nat) {L : List Pc} {w : World} (H : SL w L) (hN : (sealI (encI g)).length = N) (hn : g.data.length = n) (hnil : a = none → c = 0) (hl : n ≤ 1000) (hr : ∀ V, SL V L → RdB V a g.data) :
    Calls Tryd.prog 9 #[gmV g (.slice a n c)] w fun e w' => ∃ a' c', e = .returned (.tuple #[.slice a' N c', .int .i64 0]) ∧ SL w' (.own 5 1 (.slice a' N c') N (bv (sealI (encI g))) :: L) := by
  subst hn hN
  have h := enc_c g ok a c H hnil hl hr
  have hR : encR g = (sealI (encI g), 0) := by unfold encR; rw [if_pos hm]
  unfold EncPost at h
  rw [hR] at h
  exact h
theorem enc_no (g : Gm) (ok : GmOk g) (hm : ¬ mayK g) (a : Option Addr) (n c : Nat) {L : List Pc} {w : World} (H : SL w L) (hn : g.data.length = n) (hnil : a = none → c = 0) (hl : n ≤ 1000) (hr : ∀ V, SL V L → RdB V a g.data) :
    Calls Tryd.prog 9 #[gmV g (.slice a n c)] w fun e w' => ∃ a' c', e = .returned (.tuple #[.slice a' (0 : Nat) c', .int .i64 180]) ∧ SL w' L := by
  subst hn
  have h := enc_c g ok a c H hnil hl hr
  have hR : encR g = ([], 180) := by unfold encR; rw [if_neg hm]
  unfold EncPost at h
  rw [hR] at h
  exact h.mono fun e w' ⟨a', c', h1, h2⟩ => ⟨a', c', h1, h2.tail⟩
/-- What is decoded. -/
theorem decR_cases {bs : List Int} (hy : ∀ x ∈ bs, byteK x) : (∃ h, decR bs = (h, 0) ∧ GmOk h ∧ mayK h ∧ h.data.length ≤ 900 ∧ sealI (encI h) = bs) ∨ ((decR bs).1 = Gm0 ∧ ((decR bs).2 = 40 ∨ (decR bs).2 = 180)) := by
  by_cases h0 : (decR bs).2 = 0
  · refine .inl ⟨(decR bs).1, by rw [← h0], ?_, (enc_dec hy h0).1, ?_, (enc_dec hy h0).2⟩
    · by_cases hz : openZ bs = 0
      · by_cases h1 : endK (readC (openB bs)).2 ∧ mayK (readC (openB bs)).1
        · rw [decR_good hz (openB_bytes bs) h1]
          exact readC_ok (openB_bytes bs)
        · rw [decR_bad hz (openB_bytes bs) h1] at h0
          cases h0
      · rw [decR_no hz] at h0
        cases h0
    · have hf := (enc_dec hy h0).1.2.2.2.2
      unfold formK at hf
      rcases hf with ⟨-, -, -, -, h⟩ | ⟨-, -, -, -, h⟩ | ⟨-, -, -, -, h⟩
      · rw [h]; decide
      · exact h
      · rw [h]; decide
  · refine .inr ?_
    unfold decR at *
    split
    · rename_i hz
      rw [if_pos hz] at h0
      split
      · exact ⟨rfl, .inr rfl⟩
      · rename_i g hg
        rw [hg] at h0
        exact absurd rfl h0
    · exact ⟨rfl, .inl rfl⟩
theorem dec_s {a : Option Addr} {n c : Nat} {bs : List Int} {w : World} {L : List Pc} (g : Gm) (E : Int) (H : SL w L) (hR : decR bs = (g, E)) (hl : bs.length = n) (hn : n ≤ 6000) (hc : n ≤ c) (hcm : c ≤ 9223372036854775807) (hb : RdB w a bs) (hy : ∀ x ∈ bs, byteK x) (m : Nat) (hm : g.data.length = m) :
    Calls Tryd.prog 20 #[.slice a n c] w fun e w' => ∃ a' c', e = .returned (.tuple #[.agg #[.int .i64 g.fr, .int .i64 g.dst, .int .i64 g.kind, .int .u64 g.n, .int .i64 g.by', .int .u64 g.seq, .int .u64 g.ack, .int .u64 g.mask, .slice a' m c'], .int .i64 E]) ∧ SL w' (.own 5 1 (.slice a' m c') m (bv g.data) :: L) := by
  subst hm
  have h := dec_c H hl hn hc hcm hb hy
  unfold DecPost at h
  rw [hR] at h
  exact h
theorem for_s {a : Option Addr} {n c : Nat} {bs : List Int} {w : World} {L : List Pc} (g : Gm) (H : SL w L) (hR : decR bs = (g, 0)) (hl : bs.length = n) (hn : n ≤ 6000) (hc : n ≤ c) (hcm : c ≤ 9223372036854775807) (hb : RdB w a bs) (hy : ∀ x ∈ bs, byteK x) (m : Nat) (hm : g.data.length = m) :
    Calls Tryd.prog 22 #[.slice a n c, .int .i64 g.fr, .int .i64 g.dst] w fun e w' => ∃ a' c', e = .returned (.tuple #[.agg #[.int .i64 g.fr, .int .i64 g.dst, .int .i64 g.kind, .int .u64 g.n, .int .i64 g.by', .int .u64 g.seq, .int .u64 g.ack, .int .u64 g.mask, .slice a' m c'], .int .i64 0]) ∧ SL w' (.own 5 1 (.slice a' m c') m (bv g.data) :: L) := by
  subst hm
  have h := for_c g.fr g.dst H hl hn hc hcm hb hy
  have hF : forR bs g.fr g.dst = (g, 0) := by unfold forR; rw [hR, if_neg (fun h => h.2 ⟨rfl, rfl⟩)]
  rw [hF] at h
  exact h
theorem same_s (g h : Gm) (ga ha : Option Addr) (gn gc hn hc : Nat) {L : List Pc} {w : World} (H : SL w L) (hgn : g.data.length = gn) (hhn : h.data.length = hn) (hlen : gn ≤ 1000) (hg : ∀ x ∈ g.data, byteK x) (hh : ∀ x ∈ h.data, byteK x) (rg : ∀ V, SL V L → RdB V ga g.data) (rh : ∀ V, SL V L → RdB V ha h.data) (b : Bool) (hb : decide (g = h) = b) :
    Calls Tryd.prog 17 #[gmV g (.slice ga gn gc), gmV h (.slice ha hn hc)] w fun e w' => e = .returned (.bool b) ∧ SL w' L := by
  subst hgn hhn
  exact csame_c g h ga ha gc hc H hlen hg hh rg rh b hb
theorem gm0_bytes : ∀ x ∈ Gm0.data, byteK x := fun x hx => by cases hx
end Go.Proofs.YtilpkfgdlehmpaaDoor
