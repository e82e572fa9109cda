/- The contracts over the member as one state. -/
import Derived.Test.YtaibdcglhibglaaRefW
namespace Go.Proofs.Ytaibdcglhibglaa
open Go.RowKit
set_option linter.unusedVariables false

def St.heard (x : St) (M Cy : Int) : Int × St := ((heardM x.nodes M Cy x.gN x.gBy).1, { x with gN := (heardM x.nodes M Cy x.gN x.gBy).2.1, gBy := (heardM x.nodes M Cy x.gN x.gBy).2.2 })
def St.paid (x : St) : St := { x with owes := false }

theorem rdI_blk {w : World} {L L' : List Pc} {b : Nat} {l : List Int} {t : TypeId} (H : SL w L) (hp : Pull L (.blk b (iv l) t) L') : RdI w (some ⟨b, 0, none⟩) l :=
  RdI.of_rd (rd_blk (show w.heap[b]? = some (.cells (iv l).toArray t) from H.all _ hp.mem))

section
variable {p : Nat} {a : Option Addr} {c b : Nat} {x : St} {L : List Pc} {w : World}

theorem newS_c (self disp : Int) (n : Nat) (H : SL w L) (h1 : 1 ≤ n) (h2 : n ≤ 64) (h3 : 0 ≤ self) (h4 : 0 ≤ disp) (h5 : self < n) (h6 : disp < n) :
    Calls Try.prog 17 #[.int .i64 self, .int .i64 n, .int .i64 disp] w fun e w' => ∃ p a c b, e = .returned (.tuple #[.pointer (some ⟨p, 0, none⟩), .int .i64 0]) ∧ SL w' (MS p a c b (St0 self disp n) L) :=
  new_yes self disp n H h1 h2 h3 h4 h5 h6

theorem viewS_c (H : SL w (MS p a c b x L)) (hn : 1 ≤ x.nodes) (hm : x.ms ≠ []) (hl : x.ms.length ≤ 1000000) :
    Calls Try.prog 10 #[.pointer (some ⟨p, 0, none⟩)] w fun r w' => ∃ a' c', r = .returned (.agg #[.int .u32 x.N, .int .i64 x.By, .slice a' x.ms.length c']) ∧
      SL w' (.own 3 1 (.slice a' x.ms.length c') x.ms.length (iv x.ms) :: MS p a c b x L) :=
  view_c (show SL w (MEM p x.self x.nodes x.disp x.N x.By a c x.ms x.gN x.gBy x.owes b x.ps x.count L) from H) hn hm hl

theorem greatestS_c (H : SL w (MS p a c b x L)) (hn : 1 ≤ x.nodes) :
    Calls Try.prog 16 #[.pointer (some ⟨p, 0, none⟩)] w fun r w' => r = .returned (.agg #[.int .u32 x.gN, .int .i64 x.gBy]) ∧ SL w' (MS p a c b x L) :=
  greatest_c (show SL w (memB p x.self x.nodes x.disp x.N x.By (.slice a x.ms.length c) x.gN x.gBy x.owes (.map (some b)) x.count :: _) from H) hn

theorem owesS_c (H : SL w (MS p a c b x L)) (hn : 1 ≤ x.nodes) :
    Calls Try.prog 23 #[.pointer (some ⟨p, 0, none⟩)] w fun r w' => r = .returned (.tuple #[.int .i64 (if x.owes = true then x.By else 0), .bool x.owes]) ∧ SL w' (MS p a c b x.paid L) :=
  owes_c (show SL w (memB p x.self x.nodes x.disp x.N x.By (.slice a x.ms.length c) x.gN x.gBy x.owes (.map (some b)) x.count :: _) from H) hn

theorem heardS_c (H : SL w (MS p a c b x L)) (hn : 1 ≤ x.nodes) (M Cy : Int) :
    Calls Try.prog 11 #[.pointer (some ⟨p, 0, none⟩), .agg #[.int .u32 M, .int .i64 Cy]] w fun r w' => r = .returned (.int .i64 (x.heard M Cy).1) ∧ SL w' (MS p a c b (x.heard M Cy).2 L) :=
  heard_c (show SL w (memB p x.self x.nodes x.disp x.N x.By (.slice a x.ms.length c) x.gN x.gBy x.owes (.map (some b)) x.count :: _) from H) hn M Cy

theorem letsS_c (H : SL w (MS p a c b x L)) (hn : 1 ≤ x.nodes) (M Cy : Int) :
    Calls Try.prog 29 #[.pointer (some ⟨p, 0, none⟩), .agg #[.int .u32 M, .int .i64 Cy]] w fun r w' => r = .returned (.bool (decide (M = x.N ∧ Cy = x.By))) ∧ SL w' (MS p a c b x L) :=
  lets_c (show SL w (memB p x.self x.nodes x.disp x.N x.By (.slice a x.ms.length c) x.gN x.gBy x.owes (.map (some b)) x.count :: _) from H) hn M Cy

theorem copyS_c (H : SL w (MS p a c b x L)) (hn : 1 ≤ x.nodes) (hm : x.ms ≠ []) (hl : x.ms.length ≤ 1000000) :
    Calls Try.prog 26 #[.pointer (some ⟨p, 0, none⟩)] w fun r w' => ∃ p' a' c' b', r = .returned (.pointer (some ⟨p', 0, none⟩)) ∧ SL w' (MS p' a' c' b' x (MS p a c b x L)) :=
  copy_c (show SL w (MEM p x.self x.nodes x.disp x.N x.By a c x.ms x.gN x.gBy x.owes b x.ps x.count L) from H) hn hm hl

theorem readyS_c (H : SL w (MS p a c b x L)) (hn : 1 ≤ x.nodes) (hm : x.ms.length ≤ 1000000) :
    Calls Try.prog 25 #[.pointer (some ⟨p, 0, none⟩)] w fun r w' => r = .returned (.tuple #[.int .i64 x.ready.1, .bool x.ready.2]) ∧ SL w' (MS p a c b x L) := ready_c x H hn hm

theorem refHeardS_c (H : SL w (RS p a c b x L)) (M Cy : Int) :
    Calls Try.prog 43 #[.pointer (some ⟨p, 0, none⟩), .agg #[.int .u32 M, .int .i64 Cy]] w fun r w' => r = .returned (.int .i64 (x.heard M Cy).1) ∧ SL w' (RS p a c b (x.heard M Cy).2 L) :=
  refHeard_c (show SL w (refB p x.self x.nodes x.disp x.N x.By (.slice a x.ms.length c) x.gN x.gBy x.owes (.slice (some ⟨b, 0, none⟩) x.nodes.toNat x.nodes.toNat) x.count :: _) from H) M Cy

theorem refWordS_c (H : SL w (RS p a c b x L)) :
    Calls Try.prog 46 #[.pointer (some ⟨p, 0, none⟩)] w fun r w' => r = .returned (.tuple #[.int .i64 (if x.owes = true then x.By else 0), .bool x.owes]) ∧ SL w' (RS p a c b x.paid L) :=
  refWord_c (show SL w (refB p x.self x.nodes x.disp x.N x.By (.slice a x.ms.length c) x.gN x.gBy x.owes (.slice (some ⟨b, 0, none⟩) x.nodes.toNat x.nodes.toNat) x.count :: _) from H)
end

theorem epoch_c {w : World} {L : List Pc} (H : SL w L) (M Cy : Int) :
    Calls Try.prog 22 #[.int .u32 M, .int .i64 Cy] w fun r w' => r = .returned (.agg #[.int .u32 M, .int .i64 Cy]) ∧ SL w' L := by
  have hH := Lib.hid (H.alloc [.int .u32 M, .int .i64 Cy] 31)
  clear H
  go_enter Try.func22, Try.ntmps22
  go_wp2_with fail
  generalize w.alloc (.cells #[.int .u32 M, .int .i64 Cy] 31) = w2 at *
  generalize w.heap.size = b1 at *
  have k0 := hH.out.cell (o := 0) (.here _ _) rfl
  have k1 := hH.out.cell (o := 1) (.here _ _) rfl
  refine bodyPost_ret (v := .agg #[.int .u32 M, .int .i64 Cy]) ?_ rfl ⟨rfl, hH.out.tail⟩
  simp [results, Try.results22, go_sem, k0, k1]
end Go.Proofs.Ytaibdcglhibglaa
