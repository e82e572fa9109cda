/- The contracts, for closed laws: what comes out is given, and shown by computation. -/
import Derived.Test.YtaibdcglhibglaaWraps
namespace Go.Proofs.Ytaibdcglhibglaa
open Go.RowKit
set_option linter.unusedVariables false

section
variable {p : Nat} {a : Option Addr} {c b : Nat} {x : St} {L : List Pc} {w : World}
theorem owesK (H : SL w (MS p a c b x L)) (hn : 1 ≤ x.nodes) {n : Int} {o : Bool} {y : St} (h1 : (if x.owes = true then x.By else 0) = n) (h2 : x.owes = o) (h3 : x.paid = y) :
    Calls Try.prog 23 #[.pointer (some ⟨p, 0, none⟩)] w fun r w' => r = .returned (.tuple #[.int .i64 n, .bool o]) ∧ SL w' (MS p a c b y L) := by
  subst h1 h2 h3; exact owesS_c H hn
theorem proposeK_no (H : SL w (MS p a c b x L)) (hn : 1 ≤ x.nodes) (hm : x.ms.length ≤ 1000000) (g : Option Addr) (k m : Nat) (l : List Int) (hlen : l.length = m) (hl : l.length ≤ 1000000) (hr : ∀ V, SL V L → RdI V g l) (hcan : x.can l = false) :
    Calls Try.prog 12 #[.pointer (some ⟨p, 0, none⟩), .slice g m k] w fun r w' => r = .returned (.tuple #[.agg #[.int .u32 0, .int .i64 0, .slice none 0 0], .bool false]) ∧ SL w' (MS p a c b x L) := by
  subst hlen; exact propose_no x H hn hm g k l hl hr hcan
theorem proposeK_yes (H : SL w (MS p a c b x L)) (hn : 1 ≤ x.nodes) (hm : x.ms.length ≤ 1000000) (g : Option Addr) (k m : Nat) (l : List Int) (hlen : l.length = m) (hl : l.length ≤ 1000000) (hr : ∀ V, SL V L → RdI V g l) (hcan : x.can l = true)
    (hgN : 0 ≤ x.gN ∧ x.gN ≤ 4294967295) {N s : Int} {y : St} (h1 : x.gN + 1 = N) (h2 : x.self = s) (h3 : x.adopt (x.gN + 1) x.self l = y) :
    Calls Try.prog 12 #[.pointer (some ⟨p, 0, none⟩), .slice g m k] w fun r w' => ∃ a2 c2 a' c' b', r = .returned (.tuple #[.agg #[.int .u32 N, .int .i64 s, .slice a2 m c2], .bool true]) ∧
      SL w' (.own 3 1 (.slice a2 m c2) m (iv l) :: MS p a' c' b' y L) := by
  subst h1 h2 h3 hlen; exact propose_yes x H hn hm g k l hl hr hcan hgN
theorem joinedK (H : SL w (MS p a c b x L)) (hn : 1 ≤ x.nodes) (hm : x.ms.length ≤ 1000000) (k M Cy n : Int) {e : Int} {y : St} (h1 : x.join k M Cy n = (e, y)) :
    Calls Try.prog 24 #[.pointer (some ⟨p, 0, none⟩), .int .i64 k, .agg #[.int .u32 M, .int .i64 Cy], .int .i64 n] w fun r w' => r = .returned (.int .i64 e) ∧ SL w' (MS p a c b y L) := by
  have h := joined_c x H hn hm k M Cy n
  rw [h1] at h; exact h
theorem readyK (H : SL w (MS p a c b x L)) (hn : 1 ≤ x.nodes) (hm : x.ms.length ≤ 1000000) {n : Int} {o : Bool} (h1 : x.ready = (n, o)) :
    Calls Try.prog 25 #[.pointer (some ⟨p, 0, none⟩)] w fun r w' => r = .returned (.tuple #[.int .i64 n, .bool o]) ∧ SL w' (MS p a c b x L) := by
  have h := readyS_c H hn hm
  rw [h1] at h; exact h
theorem heardK (H : SL w (MS p a c b x L)) (hn : 1 ≤ x.nodes) (M Cy : Int) {e : Int} {y : St} (h1 : x.heard M Cy = (e, y)) :
    Calls Try.prog 11 #[.pointer (some ⟨p, 0, none⟩), .agg #[.int .u32 M, .int .i64 Cy]] w fun r w' => r = .returned (.int .i64 e) ∧ SL w' (MS p a c b y L) := by
  have h := heardS_c H hn M Cy
  rw [h1] at h; exact h
theorem letsK (H : SL w (MS p a c b x L)) (hn : 1 ≤ x.nodes) (M Cy : Int) {o : Bool} (h1 : decide (M = x.N ∧ Cy = x.By) = o) :
    Calls Try.prog 29 #[.pointer (some ⟨p, 0, none⟩), .agg #[.int .u32 M, .int .i64 Cy]] w fun r w' => r = .returned (.bool o) ∧ SL w' (MS p a c b x L) := by
  subst h1; exact letsS_c H hn M Cy
theorem greatestK (H : SL w (MS p a c b x L)) (hn : 1 ≤ x.nodes) {M Cy : Int} (h1 : x.gN = M) (h2 : x.gBy = Cy) :
    Calls Try.prog 16 #[.pointer (some ⟨p, 0, none⟩)] w fun r w' => r = .returned (.agg #[.int .u32 M, .int .i64 Cy]) ∧ SL w' (MS p a c b x L) := by
  subst h1 h2; exact greatestS_c H hn
theorem offerK (H : SL w (MS p a c b x L)) (hn : 1 ≤ x.nodes) (M Cy : Int) (g : Option Addr) (k m : Nat) (l : List Int) (hlen : l.length = m) (hl : l.length ≤ 1000000) (hr : ∀ V, SL V L → RdI V g l) {o : Bool} {y : St} (h1 : x.offer M Cy l = (o, y)) :
    Calls Try.prog 13 #[.pointer (some ⟨p, 0, none⟩), .agg #[.int .u32 M, .int .i64 Cy, .slice g m k]] w fun r w' => ∃ a' c' b', r = .returned (.bool o) ∧ SL w' (MS p a' c' b' y L) := by
  subst hlen
  have h := offer_c x H hn M Cy g k l hl hr
  rw [h1] at h
  exact h.mono fun _ _ ⟨e, a', c', b', h⟩ => ⟨a', c', b', e, h⟩
end
end Go.Proofs.Ytaibdcglhibglaa
