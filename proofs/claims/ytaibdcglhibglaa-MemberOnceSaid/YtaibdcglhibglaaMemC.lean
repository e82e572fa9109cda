/- The walk of Copy. -/
import Derived.Test.YtaibdcglhibglaaMemM
import Derived.Test.YtaibdcglhibglaaMapClone
namespace Go.Proofs.Ytaibdcglhibglaa
open Go.RowKit
set_option linter.unusedVariables false

set_option maxHeartbeats 4000000 in
theorem copy_c {p b c : Nat} {self nodes disp N By gN gBy count : Int} {a : Option Addr} {ms : List Int} {ps : Int → Bool} {owes : Bool} {L : List Pc} {w : World} (H : SL w (MEM p self nodes disp N By a c ms gN gBy owes b ps count L)) (hn : 1 ≤ nodes) (hm : ms ≠ []) (hl : ms.length ≤ 1000000) :
    Calls Try.prog 26 #[.pointer (some ⟨p, 0, none⟩)] w fun r w' => ∃ p' a' c' b', r = .returned (.pointer (some ⟨p', 0, none⟩)) ∧
      SL w' (MEM p' self nodes disp N By a' c' ms gN gBy owes b' ps count (MEM p self nodes disp N By a c ms gN gBy owes b ps count L)) := by
  have hno := Lib.hid (none_c (show SL w (memB p self nodes disp N By (.slice a ms.length c) gN gBy owes (.map (some b)) count :: _) from H))
  have hnz : (nodes == 0) = false := by simp; omega
  rw [hnz] at hno
  have c0 := H.cell (o := 0) (.here _ _) rfl
  have c1 := H.cell (o := 1) (.here _ _) rfl
  have c2 := H.cell (o := 2) (.here _ _) rfl
  have c3 := H.cell (o := 3) (.here _ _) rfl
  have c4 := H.cell (o := 4) (.here _ _) rfl
  have c5 := H.cell (o := 5) (.here _ _) rfl
  have c6 := H.cell (o := 6) (.here _ _) rfl
  have c7 := H.cell (o := 7) (.here _ _) rfl
  have c8 := H.cell (o := 8) (.here _ _) rfl
  have c9 := H.cell (o := 9) (.here _ _) rfl
  have c10 := H.cell (o := 10) (.here _ _) rfl
  have H1 := H.alloc [.int .i64 self, .int .i64 nodes, .int .i64 disp, .int .u32 N, .int .i64 By, .slice a ms.length c, .int .u32 gN, .int .i64 gBy, .bool owes, .map (some b), .int .i64 count] 74
  have hH := Lib.hid H1
  have hvw := Lib.hid (fun V L (h : SL V (MEM p self nodes disp N By a c ms gN gBy owes b ps count L)) => view_c h hn hm hl)
  clear H H1 hn hm hl hnz
  go_enter Try.func26, Try.ntmps26
  go_wp2_with fail
  refine hno.out.mono ?_
  rintro r w' ⟨rfl, rfl⟩
  clear hno
  go_wp2_with fail
  generalize w.alloc (.cells #[.int .i64 self, .int .i64 nodes, .int .i64 disp, .int .u32 N, .int .i64 By, .slice a ms.length c, .int .u32 gN, .int .i64 gBy, .bool owes, .map (some b), .int .i64 count] 74) = w2 at *
  generalize w.heap.size = q at *
  refine (hvw.out _ (.blk q [.int .i64 self, .int .i64 nodes, .int .i64 disp, .int .u32 N, .int .i64 By, .slice a ms.length c, .int .u32 gN, .int .i64 gBy, .bool owes, .map (some b), .int .i64 count] 74 :: L)
    (hH.out.re (.step (.there (.here _ _)) (.step (.there (.here _ _)) (.step (.there (.here _ _)) (.step (.here _ _) (.same _))))))).mono ?_
  rintro r w3 ⟨a', c', rfl, H3⟩
  have H := H3.re (.step (.there (.there (.there (.there (.here _ _))))) (.same _))
  have z3 := H.cell (o := 3) (.here _ _) rfl
  have z4 := H.cell (o := 4) (.here _ _) rfl
  have z5 := H.cell (o := 5) (.here _ _) rfl
  have z9 := H.cell (o := 9) (.here _ _) rfl
  have fz := fun o => H.free (.here _ _) o
  have d9 := H.cell (b := p) (o := 9) (.there (.there (.here _ _))) rfl
  obtain ⟨ne1, ne2⟩ := H.ne (b := q) (b' := p) (.here _ _) (.there (.here _ _))
  have h5 := ((H.setCell 3 (.int .u32 N)).setCell 4 (.int .i64 By)).setCell 5 (.slice a' ms.length c')
  obtain ⟨es, clock, hm, e1, e2⟩ := h5.iset (b := b) (ps := ps) (.there (.there (.there (.there (.here _ _)))))
  have hcl := Lib.hid (mapsClone_c b es clock _ hm)
  have h6 := iset_cloned h5 hm e1 e2
  have hH6 := Lib.hid h6
  clear hH hvw H3 H h5 hm e1 e2 h6 c0 c1 c2 c3 c4 c5 c6 c7 c8 c9 c10
  go_wp2_with fail
  refine hcl.out.mono ?_
  rintro r w' ⟨rfl, rfl⟩
  clear hcl z3 z4 z5 z9 d9 fz
  generalize ((w3.setCell ⟨q, 3, none⟩ (.int .u32 N)).setCell ⟨q, 4, none⟩ (.int .i64 By)).setCell ⟨q, 5, none⟩ (.slice a' ms.length c') = w5 at *
  have y9 := hH6.out.cell (b := q) (o := 9) (.there (.here _ _)) rfl
  have fy := fun o => hH6.out.free (b := q) (.there (.here _ _)) o
  generalize w5.alloc (.map es clock) = w6 at *
  generalize w5.heap.size = b' at *
  have h7 := Lib.hid ((hH6.out.pull (.there (.here _ _))).setCell 9 (.map (some b')))
  clear hH6
  go_wp2_with fail
  go_ret
  exact ⟨q, a', c', b', rfl, h7.out.re (.step (.here _ _) (.step (.there (.here _ _)) (.step (.here _ _) (.same _))))⟩
end Go.Proofs.Ytaibdcglhibglaa
