/- Datagrams: what may be, and what bytes' datagram is (plain law). -/
import Derived.Test.YtilpkfgdlehmpaaDoorVn
namespace Go.Proofs.YtilpkfgdlehmpaaDoor
set_option linter.unusedVariables false

structure Gm where
  kind : Int
  fr : Int
  dst : Int
  n : Int
  by' : Int
  seq : Int
  ack : Int
  mask : Int
  data : List Int
def nodeK (n : Int) : Prop := 0 ≤ n ∧ n ≤ 63
instance (n : Int) : Decidable (nodeK n) := by unfold nodeK; infer_instance
def formK (g : Gm) : Prop :=
  (g.kind = 1 ∧ g.seq = 0 ∧ g.ack = 0 ∧ g.mask = 0 ∧ g.data = []) ∨
  (g.kind = 2 ∧ g.seq < 4611686018427387904 ∧ g.ack ≤ 4611686018427387904 ∧ g.mask < 9223372036854775808 ∧ g.data.length ≤ 900) ∨
  (g.kind = 3 ∧ g.seq = 0 ∧ g.ack ≤ 4611686018427387904 ∧ g.mask < 9223372036854775808 ∧ g.data = [])
instance (g : Gm) : Decidable (formK g) := by unfold formK; infer_instance
/-- May it be? -/
def mayK (g : Gm) : Prop := nodeK g.fr ∧ nodeK g.dst ∧ nodeK g.by' ∧ g.fr ≠ g.dst ∧ formK g
instance (g : Gm) : Decidable (mayK g) := by unfold mayK; infer_instance
def most64 : Int := 18446744073709551615
theorem upK_lost {st : RdSt18} (h : st.2 = true) (m : Int) : upK st m = (0, st) := by unfold upK; rw [if_pos h]
theorem upK_none {st : RdSt18} (h : st.2 = false) (hn : numF 0 0 st.1 = none) (m : Int) : upK st m = (0, (st.1, true)) := by
  unfold upK; rw [if_neg (by rw [h]; decide), hn]
theorem upK_some {st : RdSt18} (h : st.2 = false) {v : Int} {k : Nat} (hn : numF 0 0 st.1 = some (v, k)) (m : Int) : upK st m = if m < v then (0, (st.1, true)) else (v, (st.1.drop k, false)) := by
  unfold upK; rw [if_neg (by rw [h]; decide), hn]
theorem upK_bytes {st : RdSt18} {m : Int} (h : ∀ c ∈ st.1, byteK c) : ∀ c ∈ (upK st m).2.1, byteK c := by
  unfold upK
  split
  · exact h
  · split
    · exact h
    · split
      · exact h
      · exact fun c hc => h c (List.mem_of_mem_drop hc)
theorem upK_le {st : RdSt18} {m : Int} (hm : 0 ≤ m) (h : ∀ c ∈ st.1, byteK c) : 0 ≤ (upK st m).1 ∧ (upK st m).1 ≤ m := by
  unfold upK
  split
  · exact ⟨Int.le_refl _, hm⟩
  · split
    · exact ⟨Int.le_refl _, hm⟩
    · rename_i v k e
      have := numF_bound st.1 h (Int.le_refl _) (by decide) (by omega) e
      split
      · exact ⟨Int.le_refl _, hm⟩
      · exact ⟨this.1, by dsimp only; omega⟩
/-- What Decode reads, field by field. -/
def readK (bs : List Int) : Gm × RdSt18 :=
  let a := upK (bs, false) 3
  let f := upK a.2 63
  let t := upK f.2 63
  let n := upK t.2 most64
  let b := upK n.2 63
  let q := if a.1 = 2 then upK b.2 most64 else (0, b.2)
  let k := if 2 ≤ a.1 then upK q.2 most64 else (0, q.2)
  let m := if 2 ≤ a.1 then upK k.2 most64 else (0, k.2)
  let d := if a.1 = 2 then textK m.2 900 else ([], m.2)
  (⟨a.1, f.1, t.1, n.1, b.1, q.1, k.1, m.1, d.1⟩, d.2)
def endK (st : RdSt18) : Prop := st.2 = false ∧ st.1 = []
instance (st : RdSt18) : Decidable (endK st) := by unfold endK; infer_instance
def decK (bs : List Int) : Option Gm := if endK (readK bs).2 ∧ mayK (readK bs).1 then some (readK bs).1 else none
/-- No kind: no datagram, whatever else is read. -/
theorem decK_kind {bs : List Int} (h : (upK (bs, false) 3).1 < 1) : decK bs = none := by
  unfold decK
  rw [if_neg]
  rintro ⟨-, -, -, -, -, hf⟩
  have e : (readK bs).1.kind = (upK (bs, false) 3).1 := rfl
  unfold formK at hf
  rw [e] at hf
  omega
end Go.Proofs.YtilpkfgdlehmpaaDoor
