/- mullionref18.Same, gram.Same. (Printed by gensamed.py.) -/
import Derived.Test.YtilpkfgdlehmpaaDoorTxt
import Derived.Test.YtilpkfgdlehmpaaDoorSealS
namespace Go.Proofs.YtilpkfgdlehmpaaDoor
open Go.RowKit Go.Shelf
set_option linter.unusedVariables false

instance (g h : Gm) : Decidable (g = h) := decidable_of_iff ((g.kind = h.kind ∧ g.fr = h.fr ∧ g.dst = h.dst ∧ g.n = h.n) ∧ (g.by' = h.by' ∧ g.seq = h.seq ∧ g.ack = h.ack ∧ g.mask = h.mask) ∧ g.data = h.data) (by
  cases g; cases h; rw [Gm.mk.injEq]; dsimp only
  constructor
  · rintro ⟨⟨h1, h2, h3, h4⟩, ⟨h5, h6, h7, h8⟩, h9⟩; exact ⟨h1, h2, h3, h4, h5, h6, h7, h8, h9⟩
  · rintro ⟨h1, h2, h3, h4, h5, h6, h7, h8, h9⟩; exact ⟨⟨h1, h2, h3, h4⟩, ⟨h5, h6, h7, h8⟩, h9⟩)
def strK (l : List Int) : ByteArray := Crc.strB (toB l)
theorem strK_inj {l k : List Int} (hl : ∀ x ∈ l, byteK x) (hk : ∀ x ∈ k, byteK x) (h : strK l = strK k) : l = k := by
  have := congrArg (List.map Crc.U) (Crc.strB_inj h)
  rwa [toB_U hl, toB_U hk] at this
theorem toList_inj {s t : ByteArray} (h : s.toList = t.toList) : s = t := by
  rw [ByteArray.toList_eq, ByteArray.toList_eq] at h
  exact ByteArray.ext (Array.ext' h)
theorem run_strK {w : World} {a : Option Addr} {n c : Nat} {l : List Int} (hl : l.length = n) (h : RdB w a l) (hy : ∀ x ∈ l, byteK x) :
    (convert 23 9 (.slice a n c)).run Tryd.prog w = .ok (.string (strK l)) w :=
  Crc.run_str Tryd.underlying23 Tryd.underlying5 Tryd.underlying9 (by rw [toB_length]; exact hl) (h.toB hy)

set_option maxRecDepth 100000 in
set_option maxHeartbeats 8000000 in
theorem csame_c (g h : Gm) (ga ha : Option Addr) (gc hc : Nat) {L : List Pc} {w : World} (H : SL w L) (hlen : g.data.length ≤ 1000) (hg : ∀ x ∈ g.data, byteK x) (hh : ∀ x ∈ h.data, byteK x) (rg : ∀ V, SL V L → RdB V ga g.data) (rh : ∀ V, SL V L → RdB V ha h.data) (b : Bool) (hb : decide (g = h) = b) :
    Calls Tryd.prog 17 #[gmV g (.slice ga g.data.length gc), gmV h (.slice ha h.data.length hc)] w fun e w' => e = .returned (.bool b) ∧ SL w' L := by
  have hcall : Hid (∀ V, SL V L → Calls Tryd.prog 40 #[.slice ga g.data.length gc, .slice ha h.data.length hc] V fun e w' => e = .returned (.bool (decide (toB g.data = toB h.data))) ∧ Kp no V w') := Lib.hid fun V hV => Crc.equal_c ga ha _ _ gc hc (toB g.data) (toB h.data) V (toB_length _) (toB_length _) (by rw [toB_length]; omega) ((rg V hV).toB hg) ((rh V hV).toB hh)
  have hinj : Hid (toB g.data = toB h.data → g.data = h.data) := Lib.hid fun e => by
    have := congrArg (List.map Crc.U) e
    rwa [toB_U hg, toB_U hh] at this
  clear hlen
  have hH := Lib.hid ((H.alloc (gmC g (.slice ga g.data.length gc)) 25).alloc (gmC h (.slice ha h.data.length hc)) 25)
  rw [World.size_alloc] at hH
  have hyes : Hid (g = h → b = true) := Lib.hid fun h => by rw [← hb]; simpa using h
  have hno : Hid (¬ g = h → b = false) := Lib.hid fun h => by rw [← hb]; simpa using h
  clear hb H hg hh rg rh
  obtain ⟨x2, x0, x1, x3, x4, x5, x6, x7, l⟩ := g
  obtain ⟨y2, y0, y1, y3, y4, y5, y6, y7, k⟩ := h
  dsimp only at *
  obtain ⟨s, hs⟩ : ∃ s, toB l = s := ⟨_, rfl⟩
  obtain ⟨t, ht⟩ : ∃ t, toB k = t := ⟨_, rfl⟩
  have hst : Hid (l = k ↔ s = t) := Lib.hid ⟨fun h => by rw [← hs, ← ht, h], fun h => hinj.out (by rw [hs, ht, h])⟩
  rw [hs, ht] at hcall
  clear hs ht hinj
  simp only [gmV, gmC] at *
  have hgh : Hid ((⟨x2, x0, x1, x3, x4, x5, x6, x7, l⟩ : Gm) = ⟨y2, y0, y1, y3, y4, y5, y6, y7, k⟩ ↔ (x0 = y0 ∧ x1 = y1 ∧ x2 = y2 ∧ x3 = y3 ∧ x4 = y4 ∧ x5 = y5 ∧ x6 = y6 ∧ x7 = y7 ∧ s = t)) := Lib.hid (by
    rw [Gm.mk.injEq, hst.out]
    constructor
    · rintro ⟨h2, h0, h1, h⟩; exact ⟨h0, h1, h2, h⟩
    · rintro ⟨h0, h1, h2, h⟩; exact ⟨h2, h0, h1, h⟩)
  rw [hgh.out] at hyes hno
  clear hgh hst
  by_cases h0 : ¬ x0 = y0
  · have hE := Lib.hid (hno.out fun e => h0 e.1)
    have e0 : (x0 == y0) = false := by simpa using h0
    clear h0 hyes hno
    have p0 := hH.out.cell (o := 0) (.there (.here _ _)) rfl
    have q0 := hH.out.cell (o := 0) (.here _ _) rfl
    have p1 := hH.out.cell (o := 1) (.there (.here _ _)) rfl
    have q1 := hH.out.cell (o := 1) (.here _ _) rfl
    have p2 := hH.out.cell (o := 2) (.there (.here _ _)) rfl
    have q2 := hH.out.cell (o := 2) (.here _ _) rfl
    have p3 := hH.out.cell (o := 3) (.there (.here _ _)) rfl
    have q3 := hH.out.cell (o := 3) (.here _ _) rfl
    have p4 := hH.out.cell (o := 4) (.there (.here _ _)) rfl
    have q4 := hH.out.cell (o := 4) (.here _ _) rfl
    have p5 := hH.out.cell (o := 5) (.there (.here _ _)) rfl
    have q5 := hH.out.cell (o := 5) (.here _ _) rfl
    have p6 := hH.out.cell (o := 6) (.there (.here _ _)) rfl
    have q6 := hH.out.cell (o := 6) (.here _ _) rfl
    have p7 := hH.out.cell (o := 7) (.there (.here _ _)) rfl
    have q7 := hH.out.cell (o := 7) (.here _ _) rfl
    have p8 := hH.out.cell (o := 8) (.there (.here _ _)) rfl
    have q8 := hH.out.cell (o := 8) (.here _ _) rfl
    go_enter Tryd.func17, Tryd.ntmps17
    go_wp2_with fail
    go_ret
    exact ⟨by rw [hE.out]; rfl, hH.out.tail.tail⟩
  have k0 := Lib.hid (Classical.not_not.1 h0)
  have e0 : (x0 == y0) = true := by simpa using k0.out
  clear h0
  by_cases h1 : ¬ x1 = y1
  · have hE := Lib.hid (hno.out fun e => h1 e.2.1)
    have e1 : (x1 == y1) = false := by simpa using h1
    clear h1 hyes hno
    have p0 := hH.out.cell (o := 0) (.there (.here _ _)) rfl
    have q0 := hH.out.cell (o := 0) (.here _ _) rfl
    have p1 := hH.out.cell (o := 1) (.there (.here _ _)) rfl
    have q1 := hH.out.cell (o := 1) (.here _ _) rfl
    have p2 := hH.out.cell (o := 2) (.there (.here _ _)) rfl
    have q2 := hH.out.cell (o := 2) (.here _ _) rfl
    have p3 := hH.out.cell (o := 3) (.there (.here _ _)) rfl
    have q3 := hH.out.cell (o := 3) (.here _ _) rfl
    have p4 := hH.out.cell (o := 4) (.there (.here _ _)) rfl
    have q4 := hH.out.cell (o := 4) (.here _ _) rfl
    have p5 := hH.out.cell (o := 5) (.there (.here _ _)) rfl
    have q5 := hH.out.cell (o := 5) (.here _ _) rfl
    have p6 := hH.out.cell (o := 6) (.there (.here _ _)) rfl
    have q6 := hH.out.cell (o := 6) (.here _ _) rfl
    have p7 := hH.out.cell (o := 7) (.there (.here _ _)) rfl
    have q7 := hH.out.cell (o := 7) (.here _ _) rfl
    have p8 := hH.out.cell (o := 8) (.there (.here _ _)) rfl
    have q8 := hH.out.cell (o := 8) (.here _ _) rfl
    go_enter Tryd.func17, Tryd.ntmps17
    go_wp2_with fail
    go_ret
    exact ⟨by rw [hE.out]; rfl, hH.out.tail.tail⟩
  have k1 := Lib.hid (Classical.not_not.1 h1)
  have e1 : (x1 == y1) = true := by simpa using k1.out
  clear h1
  by_cases h2 : ¬ x2 = y2
  · have hE := Lib.hid (hno.out fun e => h2 e.2.2.1)
    have e2 : (x2 == y2) = false := by simpa using h2
    clear h2 hyes hno
    have p0 := hH.out.cell (o := 0) (.there (.here _ _)) rfl
    have q0 := hH.out.cell (o := 0) (.here _ _) rfl
    have p1 := hH.out.cell (o := 1) (.there (.here _ _)) rfl
    have q1 := hH.out.cell (o := 1) (.here _ _) rfl
    have p2 := hH.out.cell (o := 2) (.there (.here _ _)) rfl
    have q2 := hH.out.cell (o := 2) (.here _ _) rfl
    have p3 := hH.out.cell (o := 3) (.there (.here _ _)) rfl
    have q3 := hH.out.cell (o := 3) (.here _ _) rfl
    have p4 := hH.out.cell (o := 4) (.there (.here _ _)) rfl
    have q4 := hH.out.cell (o := 4) (.here _ _) rfl
    have p5 := hH.out.cell (o := 5) (.there (.here _ _)) rfl
    have q5 := hH.out.cell (o := 5) (.here _ _) rfl
    have p6 := hH.out.cell (o := 6) (.there (.here _ _)) rfl
    have q6 := hH.out.cell (o := 6) (.here _ _) rfl
    have p7 := hH.out.cell (o := 7) (.there (.here _ _)) rfl
    have q7 := hH.out.cell (o := 7) (.here _ _) rfl
    have p8 := hH.out.cell (o := 8) (.there (.here _ _)) rfl
    have q8 := hH.out.cell (o := 8) (.here _ _) rfl
    go_enter Tryd.func17, Tryd.ntmps17
    go_wp2_with fail
    go_ret
    exact ⟨by rw [hE.out]; rfl, hH.out.tail.tail⟩
  have k2 := Lib.hid (Classical.not_not.1 h2)
  have e2 : (x2 == y2) = true := by simpa using k2.out
  clear h2
  by_cases h3 : ¬ x3 = y3
  · have hE := Lib.hid (hno.out fun e => h3 e.2.2.2.1)
    have e3 : (x3 == y3) = false := by simpa using h3
    clear h3 hyes hno
    have p0 := hH.out.cell (o := 0) (.there (.here _ _)) rfl
    have q0 := hH.out.cell (o := 0) (.here _ _) rfl
    have p1 := hH.out.cell (o := 1) (.there (.here _ _)) rfl
    have q1 := hH.out.cell (o := 1) (.here _ _) rfl
    have p2 := hH.out.cell (o := 2) (.there (.here _ _)) rfl
    have q2 := hH.out.cell (o := 2) (.here _ _) rfl
    have p3 := hH.out.cell (o := 3) (.there (.here _ _)) rfl
    have q3 := hH.out.cell (o := 3) (.here _ _) rfl
    have p4 := hH.out.cell (o := 4) (.there (.here _ _)) rfl
    have q4 := hH.out.cell (o := 4) (.here _ _) rfl
    have p5 := hH.out.cell (o := 5) (.there (.here _ _)) rfl
    have q5 := hH.out.cell (o := 5) (.here _ _) rfl
    have p6 := hH.out.cell (o := 6) (.there (.here _ _)) rfl
    have q6 := hH.out.cell (o := 6) (.here _ _) rfl
    have p7 := hH.out.cell (o := 7) (.there (.here _ _)) rfl
    have q7 := hH.out.cell (o := 7) (.here _ _) rfl
    have p8 := hH.out.cell (o := 8) (.there (.here _ _)) rfl
    have q8 := hH.out.cell (o := 8) (.here _ _) rfl
    go_enter Tryd.func17, Tryd.ntmps17
    go_wp2_with fail
    go_ret
    exact ⟨by rw [hE.out]; rfl, hH.out.tail.tail⟩
  have k3 := Lib.hid (Classical.not_not.1 h3)
  have e3 : (x3 == y3) = true := by simpa using k3.out
  clear h3
  by_cases h4 : ¬ x4 = y4
  · have hE := Lib.hid (hno.out fun e => h4 e.2.2.2.2.1)
    have e4 : (x4 == y4) = false := by simpa using h4
    clear h4 hyes hno
    have p0 := hH.out.cell (o := 0) (.there (.here _ _)) rfl
    have q0 := hH.out.cell (o := 0) (.here _ _) rfl
    have p1 := hH.out.cell (o := 1) (.there (.here _ _)) rfl
    have q1 := hH.out.cell (o := 1) (.here _ _) rfl
    have p2 := hH.out.cell (o := 2) (.there (.here _ _)) rfl
    have q2 := hH.out.cell (o := 2) (.here _ _) rfl
    have p3 := hH.out.cell (o := 3) (.there (.here _ _)) rfl
    have q3 := hH.out.cell (o := 3) (.here _ _) rfl
    have p4 := hH.out.cell (o := 4) (.there (.here _ _)) rfl
    have q4 := hH.out.cell (o := 4) (.here _ _) rfl
    have p5 := hH.out.cell (o := 5) (.there (.here _ _)) rfl
    have q5 := hH.out.cell (o := 5) (.here _ _) rfl
    have p6 := hH.out.cell (o := 6) (.there (.here _ _)) rfl
    have q6 := hH.out.cell (o := 6) (.here _ _) rfl
    have p7 := hH.out.cell (o := 7) (.there (.here _ _)) rfl
    have q7 := hH.out.cell (o := 7) (.here _ _) rfl
    have p8 := hH.out.cell (o := 8) (.there (.here _ _)) rfl
    have q8 := hH.out.cell (o := 8) (.here _ _) rfl
    go_enter Tryd.func17, Tryd.ntmps17
    go_wp2_with fail
    go_ret
    exact ⟨by rw [hE.out]; rfl, hH.out.tail.tail⟩
  have k4 := Lib.hid (Classical.not_not.1 h4)
  have e4 : (x4 == y4) = true := by simpa using k4.out
  clear h4
  by_cases h5 : ¬ x5 = y5
  · have hE := Lib.hid (hno.out fun e => h5 e.2.2.2.2.2.1)
    have e5 : (x5 == y5) = false := by simpa using h5
    clear h5 hyes hno
    have p0 := hH.out.cell (o := 0) (.there (.here _ _)) rfl
    have q0 := hH.out.cell (o := 0) (.here _ _) rfl
    have p1 := hH.out.cell (o := 1) (.there (.here _ _)) rfl
    have q1 := hH.out.cell (o := 1) (.here _ _) rfl
    have p2 := hH.out.cell (o := 2) (.there (.here _ _)) rfl
    have q2 := hH.out.cell (o := 2) (.here _ _) rfl
    have p3 := hH.out.cell (o := 3) (.there (.here _ _)) rfl
    have q3 := hH.out.cell (o := 3) (.here _ _) rfl
    have p4 := hH.out.cell (o := 4) (.there (.here _ _)) rfl
    have q4 := hH.out.cell (o := 4) (.here _ _) rfl
    have p5 := hH.out.cell (o := 5) (.there (.here _ _)) rfl
    have q5 := hH.out.cell (o := 5) (.here _ _) rfl
    have p6 := hH.out.cell (o := 6) (.there (.here _ _)) rfl
    have q6 := hH.out.cell (o := 6) (.here _ _) rfl
    have p7 := hH.out.cell (o := 7) (.there (.here _ _)) rfl
    have q7 := hH.out.cell (o := 7) (.here _ _) rfl
    have p8 := hH.out.cell (o := 8) (.there (.here _ _)) rfl
    have q8 := hH.out.cell (o := 8) (.here _ _) rfl
    go_enter Tryd.func17, Tryd.ntmps17
    go_wp2_with fail
    go_ret
    exact ⟨by rw [hE.out]; rfl, hH.out.tail.tail⟩
  have k5 := Lib.hid (Classical.not_not.1 h5)
  have e5 : (x5 == y5) = true := by simpa using k5.out
  clear h5
  by_cases h6 : ¬ x6 = y6
  · have hE := Lib.hid (hno.out fun e => h6 e.2.2.2.2.2.2.1)
    have e6 : (x6 == y6) = false := by simpa using h6
    clear h6 hyes hno
    have p0 := hH.out.cell (o := 0) (.there (.here _ _)) rfl
    have q0 := hH.out.cell (o := 0) (.here _ _) rfl
    have p1 := hH.out.cell (o := 1) (.there (.here _ _)) rfl
    have q1 := hH.out.cell (o := 1) (.here _ _) rfl
    have p2 := hH.out.cell (o := 2) (.there (.here _ _)) rfl
    have q2 := hH.out.cell (o := 2) (.here _ _) rfl
    have p3 := hH.out.cell (o := 3) (.there (.here _ _)) rfl
    have q3 := hH.out.cell (o := 3) (.here _ _) rfl
    have p4 := hH.out.cell (o := 4) (.there (.here _ _)) rfl
    have q4 := hH.out.cell (o := 4) (.here _ _) rfl
    have p5 := hH.out.cell (o := 5) (.there (.here _ _)) rfl
    have q5 := hH.out.cell (o := 5) (.here _ _) rfl
    have p6 := hH.out.cell (o := 6) (.there (.here _ _)) rfl
    have q6 := hH.out.cell (o := 6) (.here _ _) rfl
    have p7 := hH.out.cell (o := 7) (.there (.here _ _)) rfl
    have q7 := hH.out.cell (o := 7) (.here _ _) rfl
    have p8 := hH.out.cell (o := 8) (.there (.here _ _)) rfl
    have q8 := hH.out.cell (o := 8) (.here _ _) rfl
    go_enter Tryd.func17, Tryd.ntmps17
    go_wp2_with fail
    go_ret
    exact ⟨by rw [hE.out]; rfl, hH.out.tail.tail⟩
  have k6 := Lib.hid (Classical.not_not.1 h6)
  have e6 : (x6 == y6) = true := by simpa using k6.out
  clear h6
  by_cases h7 : ¬ x7 = y7
  · have hE := Lib.hid (hno.out fun e => h7 e.2.2.2.2.2.2.2.1)
    have e7 : (x7 == y7) = false := by simpa using h7
    clear h7 hyes hno
    have p0 := hH.out.cell (o := 0) (.there (.here _ _)) rfl
    have q0 := hH.out.cell (o := 0) (.here _ _) rfl
    have p1 := hH.out.cell (o := 1) (.there (.here _ _)) rfl
    have q1 := hH.out.cell (o := 1) (.here _ _) rfl
    have p2 := hH.out.cell (o := 2) (.there (.here _ _)) rfl
    have q2 := hH.out.cell (o := 2) (.here _ _) rfl
    have p3 := hH.out.cell (o := 3) (.there (.here _ _)) rfl
    have q3 := hH.out.cell (o := 3) (.here _ _) rfl
    have p4 := hH.out.cell (o := 4) (.there (.here _ _)) rfl
    have q4 := hH.out.cell (o := 4) (.here _ _) rfl
    have p5 := hH.out.cell (o := 5) (.there (.here _ _)) rfl
    have q5 := hH.out.cell (o := 5) (.here _ _) rfl
    have p6 := hH.out.cell (o := 6) (.there (.here _ _)) rfl
    have q6 := hH.out.cell (o := 6) (.here _ _) rfl
    have p7 := hH.out.cell (o := 7) (.there (.here _ _)) rfl
    have q7 := hH.out.cell (o := 7) (.here _ _) rfl
    have p8 := hH.out.cell (o := 8) (.there (.here _ _)) rfl
    have q8 := hH.out.cell (o := 8) (.here _ _) rfl
    go_enter Tryd.func17, Tryd.ntmps17
    go_wp2_with fail
    go_ret
    exact ⟨by rw [hE.out]; rfl, hH.out.tail.tail⟩
  have k7 := Lib.hid (Classical.not_not.1 h7)
  have e7 : (x7 == y7) = true := by simpa using k7.out
  clear h7
  by_cases h8 : s = t
  · have hE := Lib.hid (hyes.out ⟨k0.out, k1.out, k2.out, k3.out, k4.out, k5.out, k6.out, k7.out, h8⟩)
    have e8 : decide (s = t) = true := decide_eq_true h8
    clear h8 hyes hno
    have cc := hcall.out _ hH.out.tail.tail
    rw [e8] at cc
    have cc' := Lib.hid cc
    clear cc e8 hcall
    have p0 := hH.out.cell (o := 0) (.there (.here _ _)) rfl
    have q0 := hH.out.cell (o := 0) (.here _ _) rfl
    have p1 := hH.out.cell (o := 1) (.there (.here _ _)) rfl
    have q1 := hH.out.cell (o := 1) (.here _ _) rfl
    have p2 := hH.out.cell (o := 2) (.there (.here _ _)) rfl
    have q2 := hH.out.cell (o := 2) (.here _ _) rfl
    have p3 := hH.out.cell (o := 3) (.there (.here _ _)) rfl
    have q3 := hH.out.cell (o := 3) (.here _ _) rfl
    have p4 := hH.out.cell (o := 4) (.there (.here _ _)) rfl
    have q4 := hH.out.cell (o := 4) (.here _ _) rfl
    have p5 := hH.out.cell (o := 5) (.there (.here _ _)) rfl
    have q5 := hH.out.cell (o := 5) (.here _ _) rfl
    have p6 := hH.out.cell (o := 6) (.there (.here _ _)) rfl
    have q6 := hH.out.cell (o := 6) (.here _ _) rfl
    have p7 := hH.out.cell (o := 7) (.there (.here _ _)) rfl
    have q7 := hH.out.cell (o := 7) (.here _ _) rfl
    have p8 := hH.out.cell (o := 8) (.there (.here _ _)) rfl
    have q8 := hH.out.cell (o := 8) (.here _ _) rfl
    go_enter Tryd.func17, Tryd.ntmps17
    go_wp2_with fail
    refine cc'.out.mono ?_
    rintro e w' ⟨rfl, hK⟩
    have hL := Lib.hid (hH.out.tail.tail.quiet hK)
    clear cc' hK hH
    go_wp2_with fail
    go_ret
    exact ⟨by rw [hE.out]; rfl, hL.out⟩
  · have hE := Lib.hid (hno.out fun e => h8 e.2.2.2.2.2.2.2.2)
    have e8 : decide (s = t) = false := decide_eq_false h8
    clear h8 hyes hno
    have cc := hcall.out _ hH.out.tail.tail
    rw [e8] at cc
    have cc' := Lib.hid cc
    clear cc e8 hcall
    have p0 := hH.out.cell (o := 0) (.there (.here _ _)) rfl
    have q0 := hH.out.cell (o := 0) (.here _ _) rfl
    have p1 := hH.out.cell (o := 1) (.there (.here _ _)) rfl
    have q1 := hH.out.cell (o := 1) (.here _ _) rfl
    have p2 := hH.out.cell (o := 2) (.there (.here _ _)) rfl
    have q2 := hH.out.cell (o := 2) (.here _ _) rfl
    have p3 := hH.out.cell (o := 3) (.there (.here _ _)) rfl
    have q3 := hH.out.cell (o := 3) (.here _ _) rfl
    have p4 := hH.out.cell (o := 4) (.there (.here _ _)) rfl
    have q4 := hH.out.cell (o := 4) (.here _ _) rfl
    have p5 := hH.out.cell (o := 5) (.there (.here _ _)) rfl
    have q5 := hH.out.cell (o := 5) (.here _ _) rfl
    have p6 := hH.out.cell (o := 6) (.there (.here _ _)) rfl
    have q6 := hH.out.cell (o := 6) (.here _ _) rfl
    have p7 := hH.out.cell (o := 7) (.there (.here _ _)) rfl
    have q7 := hH.out.cell (o := 7) (.here _ _) rfl
    have p8 := hH.out.cell (o := 8) (.there (.here _ _)) rfl
    have q8 := hH.out.cell (o := 8) (.here _ _) rfl
    go_enter Tryd.func17, Tryd.ntmps17
    go_wp2_with fail
    refine cc'.out.mono ?_
    rintro e w' ⟨rfl, hK⟩
    have hL := Lib.hid (hH.out.tail.tail.quiet hK)
    clear cc' hK hH
    go_wp2_with fail
    go_ret
    exact ⟨by rw [hE.out]; rfl, hL.out⟩
end Go.Proofs.YtilpkfgdlehmpaaDoor
