/- The walk of Propose. -/
import Derived.Test.YtaibdcglhibglaaMemO
import Derived.Test.YtaibdcglhibglaaEqual
namespace Go.Proofs.Ytaibdcglhibglaa
open Go.RowKit
set_option linter.unusedVariables false

/-- A callee that only draws, in a region that only reads. -/
theorem quiet_drew {P : Program} {f : FuncId} {args : Array Value} {w : World} {n : Nat} {v : Value}
    (h : Calls P f args (w.drewN n) fun e w' => e = .returned v ∧ ∃ k, w' = (w.drewN n).drewN k) : Calls P f args (w.drewN n) fun e w'' => e = .returned v ∧ ∃ m, w'' = w.drewN m :=
  h.mono fun _ _ ⟨he, k, hm⟩ => ⟨he, n + k, by rw [hm, World.drewN_drewN]⟩

/-- Whether Propose begins a new epoch. -/
def St.can (x : St) (l : List Int) : Bool := (risingI l x.nodes && (decide (l.getD 0 0 = x.self) && !decide (x.gN = 4294967295))) && !(decide (x.gN = x.N ∧ x.gBy = x.By) && decide (l = x.ms))

section
set_option maxHeartbeats 8000000 in
theorem propose_no {p : Nat} {a : Option Addr} {c0 b : Nat} (x : St) {L : List Pc} {w : World} (H : SL w (MS p a c0 b x L)) (hn : 1 ≤ x.nodes) (hm : x.ms.length ≤ 1000000) (g : Option Addr) (c : Nat) (l : List Int) (hl : l.length ≤ 1000000) (hr : ∀ V, SL V L → RdI V g l) (hcan : x.can l = false) :
    Calls Try.prog 12 #[.pointer (some ⟨p, 0, none⟩), .slice g l.length c] w fun r w' => r = .returned (.tuple #[.agg #[.int .u32 0, .int .i64 0, .slice none 0 0], .bool false]) ∧ SL w' (MS p a c0 b x L) := by
  obtain ⟨self, nodes, disp, N, By, ms, gN, gBy, owes, ps, count⟩ := x
  dsimp only at hn hm
  unfold St.can at hcan
  dsimp only at hcan
  have H1 := H.alloc [.int .u32 0, .int .i64 0, .slice none 0 0] 34
  have hnz : (nodes == 0) = false := by simp; omega
  have hno := Lib.hid (fun V L (h : SL V (memB p self nodes disp N By (.slice a ms.length c0) gN gBy owes (.map (some b)) count :: L)) => none_c h)
  rw [hnz] at hno
  have hri := Lib.hid (fun V (h : SL V L) => rising_c l nodes g c V hl (hr V h))
  have hr0 : Hid (risingI l nodes = true → ∃ b o, g = some ⟨b, o, none⟩ ∧ ∀ V, SL V L → V.cell? ⟨b, o, none⟩ = some (.int .i64 (l.getD 0 0))) := Lib.hid (fun h => by
    obtain ⟨b, o, h1, h2⟩ := hr w H.tail.tail.tail 0 (rising_pos h)
    refine ⟨b, o, h1, fun V hk => ?_⟩
    obtain ⟨b', o', h3, h4⟩ := hr V hk 0 (rising_pos h)
    rw [h1] at h3
    cases h3
    exact h4)
  have hpos : Hid (risingI l nodes = true → 0 < l.length) := Lib.hid rising_pos
  have heq := fun V => eql_epoch gN gBy N By V
  have hel := Lib.hid (fun V (h : SL V L) (h2 : SL V [.own 3 1 (.slice a ms.length c0) ms.length (iv ms)]) => equal_c g a l ms c c0 V hl (hr V h) (OwnK.rdI (show OwnK V 0 3 1 _ _ (iv ms) from h2.ownOf (.here _ _))).2.2)
  obtain ⟨len, hlen⟩ : ∃ len, l.length = len := ⟨_, rfl⟩
  obtain ⟨mlen, hmlen⟩ : ∃ len, ms.length = len := ⟨_, rfl⟩
  have hH0 : SL (w.alloc (.cells [.int .u32 0, .int .i64 0, .slice none 0 0].toArray 34)) (.blk w.heap.size [.int .u32 0, .int .i64 0, .slice none 0 0] 34 :: memB p self nodes disp N By (.slice a ms.length c0) gN gBy owes (.map (some b)) count :: .own 3 1 (.slice a ms.length c0) ms.length (iv ms) :: iset b ps :: L) := H1
  have hback : Hid (∀ V q, SL V (q :: memB p self nodes disp N By (.slice a mlen c0) gN gBy owes (.map (some b)) count :: .own 3 1 (.slice a mlen c0) mlen (iv ms) :: iset b ps :: L) → SL V (MS p a c0 b ⟨self, nodes, disp, N, By, ms, gN, gBy, owes, ps, count⟩ L)) := Lib.hid fun V q h => by
    subst hmlen
    exact h.re (.drop (.same _))
  rw [hlen] at hri hpos hel ⊢
  rw [hmlen] at hno hel hH0
  have hH := Lib.hid hH0
  obtain ⟨q1, e1⟩ : ∃ q, risingI l nodes = q := ⟨_, rfl⟩
  obtain ⟨y, e2⟩ : ∃ y, l.getD 0 0 = y := ⟨_, rfl⟩
  obtain ⟨q4, e4⟩ : ∃ q, decide (gN = N ∧ gBy = By) = q := ⟨_, rfl⟩
  obtain ⟨q5, e5⟩ : ∃ q, decide (l = ms) = q := ⟨_, rfl⟩
  rw [e1] at hri hr0 hpos hcan
  rw [e2] at hr0 hcan
  simp only [e4] at heq
  rw [e4, e5] at hcan
  rw [e5] at hel
  have hcan' := Lib.hid hcan
  clear H H1 hH0 hr hl hm hn hnz hcan hlen hmlen e1 e2 e4 e5
  cases q1
  · clear hcan'
    go_enter Try.func12, Try.ntmps12
    go_wp2_with fail
    generalize w.alloc (.cells #[.int .u32 0, .int .i64 0, .slice none 0 0] 34) = w2 at *
    generalize w.heap.size = b1 at *
    have p0 := hH.out.cell (b := p) (o := 0) (by first | exact .here _ _ | exact .there (.here _ _) | exact .there (.there (.here _ _)) | exact .there (.there (.there (.here _ _))) | exact .there (.there (.there (.there (.here _ _)))) | exact .there (.there (.there (.there (.there (.here _ _))))) | exact .there (.there (.there (.there (.there (.there (.here _ _)))))) | exact .there (.there (.there (.there (.there (.there (.there (.here _ _))))))) | exact .there (.there (.there (.there (.there (.there (.there (.there (.here _ _)))))))) | exact .there (.there (.there (.there (.there (.there (.there (.there (.there (.here _ _))))))))) | exact .there (.there (.there (.there (.there (.there (.there (.there (.there (.there (.here _ _)))))))))) | exact .there (.there (.there (.there (.there (.there (.there (.there (.there (.there (.there (.here _ _))))))))))) | exact .there (.there (.there (.there (.there (.there (.there (.there (.there (.there (.there (.there (.here _ _)))))))))))) | exact .there (.there (.there (.there (.there (.there (.there (.there (.there (.there (.there (.there (.there (.here _ _)))))))))))))) rfl
    have p1 := hH.out.cell (b := p) (o := 1) (by first | exact .here _ _ | exact .there (.here _ _) | exact .there (.there (.here _ _)) | exact .there (.there (.there (.here _ _))) | exact .there (.there (.there (.there (.here _ _)))) | exact .there (.there (.there (.there (.there (.here _ _))))) | exact .there (.there (.there (.there (.there (.there (.here _ _)))))) | exact .there (.there (.there (.there (.there (.there (.there (.here _ _))))))) | exact .there (.there (.there (.there (.there (.there (.there (.there (.here _ _)))))))) | exact .there (.there (.there (.there (.there (.there (.there (.there (.there (.here _ _))))))))) | exact .there (.there (.there (.there (.there (.there (.there (.there (.there (.there (.here _ _)))))))))) | exact .there (.there (.there (.there (.there (.there (.there (.there (.there (.there (.there (.here _ _))))))))))) | exact .there (.there (.there (.there (.there (.there (.there (.there (.there (.there (.there (.there (.here _ _)))))))))))) | exact .there (.there (.there (.there (.there (.there (.there (.there (.there (.there (.there (.there (.there (.here _ _)))))))))))))) rfl
    have p6 := hH.out.cell (b := p) (o := 6) (by first | exact .here _ _ | exact .there (.here _ _) | exact .there (.there (.here _ _)) | exact .there (.there (.there (.here _ _))) | exact .there (.there (.there (.there (.here _ _)))) | exact .there (.there (.there (.there (.there (.here _ _))))) | exact .there (.there (.there (.there (.there (.there (.here _ _)))))) | exact .there (.there (.there (.there (.there (.there (.there (.here _ _))))))) | exact .there (.there (.there (.there (.there (.there (.there (.there (.here _ _)))))))) | exact .there (.there (.there (.there (.there (.there (.there (.there (.there (.here _ _))))))))) | exact .there (.there (.there (.there (.there (.there (.there (.there (.there (.there (.here _ _)))))))))) | exact .there (.there (.there (.there (.there (.there (.there (.there (.there (.there (.there (.here _ _))))))))))) | exact .there (.there (.there (.there (.there (.there (.there (.there (.there (.there (.there (.there (.here _ _)))))))))))) | exact .there (.there (.there (.there (.there (.there (.there (.there (.there (.there (.there (.there (.there (.here _ _)))))))))))))) rfl
    go_quiet ((first | (go_at_call 32; exact quiet_eq (hno.out _ _ ((hH.out.drewN _).re (.step (.there (.here _ _)) (.same _))))) | (go_at_call 35; exact quiet_eq (hri.out _ (hH.out.drewN _).tail.tail.tail.tail))))
    have H3 := Lib.hid (hH.out.drewN nq)
    generalize w2.drewN nq = w3 at *
    clear hH p0 p1 p6
    have z0 := H3.out.cell (o := 0) (.here _ _) rfl
    have z1 := H3.out.cell (o := 1) (.here _ _) rfl
    have z2 := H3.out.cell (o := 2) (.here _ _) rfl
    have fz := fun o => H3.out.free (.here _ _) o
    have h8 := Lib.hid (((H3.out.setCell 0 (.int .u32 0)).setCell 1 (.int .i64 0)).setCell 2 (.slice none 0 0))
    clear H3
    go_wp2_with fail
    generalize ((w3.setCell ⟨b1, 0, none⟩ (.int .u32 0)).setCell ⟨b1, 1, none⟩ (.int .i64 0)).setCell ⟨b1, 2, none⟩ (.slice none 0 0) = w5 at *
    have k0 := h8.out.cell (o := 0) (.here _ _) rfl
    have k1 := h8.out.cell (o := 1) (.here _ _) rfl
    have k2 := h8.out.cell (o := 2) (.here _ _) rfl
    refine bodyPost_ret (v := .tuple #[.agg #[.int .u32 0, .int .i64 0, .slice none 0 0], .bool false]) ?_ rfl ⟨rfl, ?_⟩
    · simp [results, Try.results12, go_sem, k0, k1, k2]
    · exact hback.out _ _ h8.out
  obtain ⟨b', o', rfl, hc⟩ := hr0.out rfl
  have hc' := Lib.hid hc
  clear hc hr0
  by_cases h1 : y = self
  · have h1b : (y != self) = false := by simpa using h1
    have h1' := Lib.hid h1
    clear h1
    by_cases h2 : gN = 4294967295
    · have h2b : (gN == 4294967295) = true := by simpa using h2
      clear hcan' h2
      go_enter Try.func12, Try.ntmps12
      go_wp2_with fail
      generalize w.alloc (.cells #[.int .u32 0, .int .i64 0, .slice none 0 0] 34) = w2 at *
      generalize w.heap.size = b1 at *
      have p0 := hH.out.cell (b := p) (o := 0) (by first | exact .here _ _ | exact .there (.here _ _) | exact .there (.there (.here _ _)) | exact .there (.there (.there (.here _ _))) | exact .there (.there (.there (.there (.here _ _)))) | exact .there (.there (.there (.there (.there (.here _ _))))) | exact .there (.there (.there (.there (.there (.there (.here _ _)))))) | exact .there (.there (.there (.there (.there (.there (.there (.here _ _))))))) | exact .there (.there (.there (.there (.there (.there (.there (.there (.here _ _)))))))) | exact .there (.there (.there (.there (.there (.there (.there (.there (.there (.here _ _))))))))) | exact .there (.there (.there (.there (.there (.there (.there (.there (.there (.there (.here _ _)))))))))) | exact .there (.there (.there (.there (.there (.there (.there (.there (.there (.there (.there (.here _ _))))))))))) | exact .there (.there (.there (.there (.there (.there (.there (.there (.there (.there (.there (.there (.here _ _)))))))))))) | exact .there (.there (.there (.there (.there (.there (.there (.there (.there (.there (.there (.there (.there (.here _ _)))))))))))))) rfl
      have p1 := hH.out.cell (b := p) (o := 1) (by first | exact .here _ _ | exact .there (.here _ _) | exact .there (.there (.here _ _)) | exact .there (.there (.there (.here _ _))) | exact .there (.there (.there (.there (.here _ _)))) | exact .there (.there (.there (.there (.there (.here _ _))))) | exact .there (.there (.there (.there (.there (.there (.here _ _)))))) | exact .there (.there (.there (.there (.there (.there (.there (.here _ _))))))) | exact .there (.there (.there (.there (.there (.there (.there (.there (.here _ _)))))))) | exact .there (.there (.there (.there (.there (.there (.there (.there (.there (.here _ _))))))))) | exact .there (.there (.there (.there (.there (.there (.there (.there (.there (.there (.here _ _)))))))))) | exact .there (.there (.there (.there (.there (.there (.there (.there (.there (.there (.there (.here _ _))))))))))) | exact .there (.there (.there (.there (.there (.there (.there (.there (.there (.there (.there (.there (.here _ _)))))))))))) | exact .there (.there (.there (.there (.there (.there (.there (.there (.there (.there (.there (.there (.there (.here _ _)))))))))))))) rfl
      have p6 := hH.out.cell (b := p) (o := 6) (by first | exact .here _ _ | exact .there (.here _ _) | exact .there (.there (.here _ _)) | exact .there (.there (.there (.here _ _))) | exact .there (.there (.there (.there (.here _ _)))) | exact .there (.there (.there (.there (.there (.here _ _))))) | exact .there (.there (.there (.there (.there (.there (.here _ _)))))) | exact .there (.there (.there (.there (.there (.there (.there (.here _ _))))))) | exact .there (.there (.there (.there (.there (.there (.there (.there (.here _ _)))))))) | exact .there (.there (.there (.there (.there (.there (.there (.there (.there (.here _ _))))))))) | exact .there (.there (.there (.there (.there (.there (.there (.there (.there (.there (.here _ _)))))))))) | exact .there (.there (.there (.there (.there (.there (.there (.there (.there (.there (.there (.here _ _))))))))))) | exact .there (.there (.there (.there (.there (.there (.there (.there (.there (.there (.there (.there (.here _ _)))))))))))) | exact .there (.there (.there (.there (.there (.there (.there (.there (.there (.there (.there (.there (.there (.here _ _)))))))))))))) rfl
      have hcc := hc'.out w2 hH.out.tail.tail.tail.tail
      have hpp := hpos.out trivial
      go_quiet ((first | (go_at_call 32; exact quiet_eq (hno.out _ _ ((hH.out.drewN _).re (.step (.there (.here _ _)) (.same _))))) | (go_at_call 35; exact quiet_eq (hri.out _ (hH.out.drewN _).tail.tail.tail.tail))))
      have H3 := Lib.hid (hH.out.drewN nq)
      generalize w2.drewN nq = w3 at *
      clear hH p0 p1 p6 hcc
      have z0 := H3.out.cell (o := 0) (.here _ _) rfl
      have z1 := H3.out.cell (o := 1) (.here _ _) rfl
      have z2 := H3.out.cell (o := 2) (.here _ _) rfl
      have fz := fun o => H3.out.free (.here _ _) o
      have h8 := Lib.hid (((H3.out.setCell 0 (.int .u32 0)).setCell 1 (.int .i64 0)).setCell 2 (.slice none 0 0))
      clear H3
      go_wp2_with fail
      generalize ((w3.setCell ⟨b1, 0, none⟩ (.int .u32 0)).setCell ⟨b1, 1, none⟩ (.int .i64 0)).setCell ⟨b1, 2, none⟩ (.slice none 0 0) = w5 at *
      have k0 := h8.out.cell (o := 0) (.here _ _) rfl
      have k1 := h8.out.cell (o := 1) (.here _ _) rfl
      have k2 := h8.out.cell (o := 2) (.here _ _) rfl
      refine bodyPost_ret (v := .tuple #[.agg #[.int .u32 0, .int .i64 0, .slice none 0 0], .bool false]) ?_ rfl ⟨rfl, ?_⟩
      · simp [results, Try.results12, go_sem, k0, k1, k2]
      · exact hback.out _ _ h8.out
    · have h2b : (gN == 4294967295) = false := by simpa using h2
      have h45 : q4 = true ∧ q5 = true := by
        have := hcan'.out
        simp [h1'.out, h2] at this
        exact this
      obtain ⟨rfl, rfl⟩ := h45
      clear hcan' h2
      go_enter Try.func12, Try.ntmps12
      go_wp2_with fail
      generalize w.alloc (.cells #[.int .u32 0, .int .i64 0, .slice none 0 0] 34) = w2 at *
      generalize w.heap.size = b1 at *
      have p0 := hH.out.cell (b := p) (o := 0) (by first | exact .here _ _ | exact .there (.here _ _) | exact .there (.there (.here _ _)) | exact .there (.there (.there (.here _ _))) | exact .there (.there (.there (.there (.here _ _)))) | exact .there (.there (.there (.there (.there (.here _ _))))) | exact .there (.there (.there (.there (.there (.there (.here _ _)))))) | exact .there (.there (.there (.there (.there (.there (.there (.here _ _))))))) | exact .there (.there (.there (.there (.there (.there (.there (.there (.here _ _)))))))) | exact .there (.there (.there (.there (.there (.there (.there (.there (.there (.here _ _))))))))) | exact .there (.there (.there (.there (.there (.there (.there (.there (.there (.there (.here _ _)))))))))) | exact .there (.there (.there (.there (.there (.there (.there (.there (.there (.there (.there (.here _ _))))))))))) | exact .there (.there (.there (.there (.there (.there (.there (.there (.there (.there (.there (.there (.here _ _)))))))))))) | exact .there (.there (.there (.there (.there (.there (.there (.there (.there (.there (.there (.there (.there (.here _ _)))))))))))))) rfl
      have p1 := hH.out.cell (b := p) (o := 1) (by first | exact .here _ _ | exact .there (.here _ _) | exact .there (.there (.here _ _)) | exact .there (.there (.there (.here _ _))) | exact .there (.there (.there (.there (.here _ _)))) | exact .there (.there (.there (.there (.there (.here _ _))))) | exact .there (.there (.there (.there (.there (.there (.here _ _)))))) | exact .there (.there (.there (.there (.there (.there (.there (.here _ _))))))) | exact .there (.there (.there (.there (.there (.there (.there (.there (.here _ _)))))))) | exact .there (.there (.there (.there (.there (.there (.there (.there (.there (.here _ _))))))))) | exact .there (.there (.there (.there (.there (.there (.there (.there (.there (.there (.here _ _)))))))))) | exact .there (.there (.there (.there (.there (.there (.there (.there (.there (.there (.there (.here _ _))))))))))) | exact .there (.there (.there (.there (.there (.there (.there (.there (.there (.there (.there (.there (.here _ _)))))))))))) | exact .there (.there (.there (.there (.there (.there (.there (.there (.there (.there (.there (.there (.there (.here _ _)))))))))))))) rfl
      have p6 := hH.out.cell (b := p) (o := 6) (by first | exact .here _ _ | exact .there (.here _ _) | exact .there (.there (.here _ _)) | exact .there (.there (.there (.here _ _))) | exact .there (.there (.there (.there (.here _ _)))) | exact .there (.there (.there (.there (.there (.here _ _))))) | exact .there (.there (.there (.there (.there (.there (.here _ _)))))) | exact .there (.there (.there (.there (.there (.there (.there (.here _ _))))))) | exact .there (.there (.there (.there (.there (.there (.there (.there (.here _ _)))))))) | exact .there (.there (.there (.there (.there (.there (.there (.there (.there (.here _ _))))))))) | exact .there (.there (.there (.there (.there (.there (.there (.there (.there (.there (.here _ _)))))))))) | exact .there (.there (.there (.there (.there (.there (.there (.there (.there (.there (.there (.here _ _))))))))))) | exact .there (.there (.there (.there (.there (.there (.there (.there (.there (.there (.there (.there (.here _ _)))))))))))) | exact .there (.there (.there (.there (.there (.there (.there (.there (.there (.there (.there (.there (.there (.here _ _)))))))))))))) rfl
      have hcc := hc'.out w2 hH.out.tail.tail.tail.tail
      have hpp := hpos.out trivial
      go_quiet ((first | (go_at_call 32; exact quiet_eq (hno.out _ _ ((hH.out.drewN _).re (.step (.there (.here _ _)) (.same _))))) | (go_at_call 35; exact quiet_eq (hri.out _ (hH.out.drewN _).tail.tail.tail.tail))))
      have H9 := Lib.hid (hH.out.drewN nq)
      generalize w2.drewN nq = w9 at *
      clear hH p0 p1 p6 hcc
      go_wp2_with fail
      have p3 := H9.out.cell (b := p) (o := 3) (by first | exact .here _ _ | exact .there (.here _ _) | exact .there (.there (.here _ _)) | exact .there (.there (.there (.here _ _))) | exact .there (.there (.there (.there (.here _ _)))) | exact .there (.there (.there (.there (.there (.here _ _))))) | exact .there (.there (.there (.there (.there (.there (.here _ _)))))) | exact .there (.there (.there (.there (.there (.there (.there (.here _ _))))))) | exact .there (.there (.there (.there (.there (.there (.there (.there (.here _ _)))))))) | exact .there (.there (.there (.there (.there (.there (.there (.there (.there (.here _ _))))))))) | exact .there (.there (.there (.there (.there (.there (.there (.there (.there (.there (.here _ _)))))))))) | exact .there (.there (.there (.there (.there (.there (.there (.there (.there (.there (.there (.here _ _))))))))))) | exact .there (.there (.there (.there (.there (.there (.there (.there (.there (.there (.there (.there (.here _ _)))))))))))) | exact .there (.there (.there (.there (.there (.there (.there (.there (.there (.there (.there (.there (.there (.here _ _)))))))))))))) rfl
      have p4 := H9.out.cell (b := p) (o := 4) (by first | exact .here _ _ | exact .there (.here _ _) | exact .there (.there (.here _ _)) | exact .there (.there (.there (.here _ _))) | exact .there (.there (.there (.there (.here _ _)))) | exact .there (.there (.there (.there (.there (.here _ _))))) | exact .there (.there (.there (.there (.there (.there (.here _ _)))))) | exact .there (.there (.there (.there (.there (.there (.there (.here _ _))))))) | exact .there (.there (.there (.there (.there (.there (.there (.there (.here _ _)))))))) | exact .there (.there (.there (.there (.there (.there (.there (.there (.there (.here _ _))))))))) | exact .there (.there (.there (.there (.there (.there (.there (.there (.there (.there (.here _ _)))))))))) | exact .there (.there (.there (.there (.there (.there (.there (.there (.there (.there (.there (.here _ _))))))))))) | exact .there (.there (.there (.there (.there (.there (.there (.there (.there (.there (.there (.there (.here _ _)))))))))))) | exact .there (.there (.there (.there (.there (.there (.there (.there (.there (.there (.there (.there (.there (.here _ _)))))))))))))) rfl
      have p5 := H9.out.cell (b := p) (o := 5) (by first | exact .here _ _ | exact .there (.here _ _) | exact .there (.there (.here _ _)) | exact .there (.there (.there (.here _ _))) | exact .there (.there (.there (.there (.here _ _)))) | exact .there (.there (.there (.there (.there (.here _ _))))) | exact .there (.there (.there (.there (.there (.there (.here _ _)))))) | exact .there (.there (.there (.there (.there (.there (.there (.here _ _))))))) | exact .there (.there (.there (.there (.there (.there (.there (.there (.here _ _)))))))) | exact .there (.there (.there (.there (.there (.there (.there (.there (.there (.here _ _))))))))) | exact .there (.there (.there (.there (.there (.there (.there (.there (.there (.there (.here _ _)))))))))) | exact .there (.there (.there (.there (.there (.there (.there (.there (.there (.there (.there (.here _ _))))))))))) | exact .there (.there (.there (.there (.there (.there (.there (.there (.there (.there (.there (.there (.here _ _)))))))))))) | exact .there (.there (.there (.there (.there (.there (.there (.there (.there (.there (.there (.there (.there (.here _ _)))))))))))))) rfl
      have p6 := H9.out.cell (b := p) (o := 6) (by first | exact .here _ _ | exact .there (.here _ _) | exact .there (.there (.here _ _)) | exact .there (.there (.there (.here _ _))) | exact .there (.there (.there (.there (.here _ _)))) | exact .there (.there (.there (.there (.there (.here _ _))))) | exact .there (.there (.there (.there (.there (.there (.here _ _)))))) | exact .there (.there (.there (.there (.there (.there (.there (.here _ _))))))) | exact .there (.there (.there (.there (.there (.there (.there (.there (.here _ _)))))))) | exact .there (.there (.there (.there (.there (.there (.there (.there (.there (.here _ _))))))))) | exact .there (.there (.there (.there (.there (.there (.there (.there (.there (.there (.here _ _)))))))))) | exact .there (.there (.there (.there (.there (.there (.there (.there (.there (.there (.there (.here _ _))))))))))) | exact .there (.there (.there (.there (.there (.there (.there (.there (.there (.there (.there (.there (.here _ _)))))))))))) | exact .there (.there (.there (.there (.there (.there (.there (.there (.there (.there (.there (.there (.there (.here _ _)))))))))))))) rfl
      have p7 := H9.out.cell (b := p) (o := 7) (by first | exact .here _ _ | exact .there (.here _ _) | exact .there (.there (.here _ _)) | exact .there (.there (.there (.here _ _))) | exact .there (.there (.there (.there (.here _ _)))) | exact .there (.there (.there (.there (.there (.here _ _))))) | exact .there (.there (.there (.there (.there (.there (.here _ _)))))) | exact .there (.there (.there (.there (.there (.there (.there (.here _ _))))))) | exact .there (.there (.there (.there (.there (.there (.there (.there (.here _ _)))))))) | exact .there (.there (.there (.there (.there (.there (.there (.there (.there (.here _ _))))))))) | exact .there (.there (.there (.there (.there (.there (.there (.there (.there (.there (.here _ _)))))))))) | exact .there (.there (.there (.there (.there (.there (.there (.there (.there (.there (.there (.here _ _))))))))))) | exact .there (.there (.there (.there (.there (.there (.there (.there (.there (.there (.there (.there (.here _ _)))))))))))) | exact .there (.there (.there (.there (.there (.there (.there (.there (.there (.there (.there (.there (.there (.here _ _)))))))))))))) rfl
      go_quiet ((go_at_call 36; exact quiet_drew (hel.out _ (H9.out.drewN _).tail.tail.tail.tail ((H9.out.drewN _).re (.step (.there (.there (.here _ _))) (.done _))))))
      have H3 := Lib.hid (H9.out.drewN nq)
      generalize w9.drewN nq = w3 at *
      clear H9 p3 p4 p5 p6 p7
      have z0 := H3.out.cell (o := 0) (.here _ _) rfl
      have z1 := H3.out.cell (o := 1) (.here _ _) rfl
      have z2 := H3.out.cell (o := 2) (.here _ _) rfl
      have fz := fun o => H3.out.free (.here _ _) o
      have h8 := Lib.hid (((H3.out.setCell 0 (.int .u32 0)).setCell 1 (.int .i64 0)).setCell 2 (.slice none 0 0))
      clear H3
      go_wp2_with fail
      generalize ((w3.setCell ⟨b1, 0, none⟩ (.int .u32 0)).setCell ⟨b1, 1, none⟩ (.int .i64 0)).setCell ⟨b1, 2, none⟩ (.slice none 0 0) = w5 at *
      have k0 := h8.out.cell (o := 0) (.here _ _) rfl
      have k1 := h8.out.cell (o := 1) (.here _ _) rfl
      have k2 := h8.out.cell (o := 2) (.here _ _) rfl
      refine bodyPost_ret (v := .tuple #[.agg #[.int .u32 0, .int .i64 0, .slice none 0 0], .bool false]) ?_ rfl ⟨rfl, ?_⟩
      · simp [results, Try.results12, go_sem, k0, k1, k2]
      · exact hback.out _ _ h8.out
  · have h1b : (y != self) = true := by simpa using h1
    clear hcan' h1
    go_enter Try.func12, Try.ntmps12
    go_wp2_with fail
    generalize w.alloc (.cells #[.int .u32 0, .int .i64 0, .slice none 0 0] 34) = w2 at *
    generalize w.heap.size = b1 at *
    have p0 := hH.out.cell (b := p) (o := 0) (by first | exact .here _ _ | exact .there (.here _ _) | exact .there (.there (.here _ _)) | exact .there (.there (.there (.here _ _))) | exact .there (.there (.there (.there (.here _ _)))) | exact .there (.there (.there (.there (.there (.here _ _))))) | exact .there (.there (.there (.there (.there (.there (.here _ _)))))) | exact .there (.there (.there (.there (.there (.there (.there (.here _ _))))))) | exact .there (.there (.there (.there (.there (.there (.there (.there (.here _ _)))))))) | exact .there (.there (.there (.there (.there (.there (.there (.there (.there (.here _ _))))))))) | exact .there (.there (.there (.there (.there (.there (.there (.there (.there (.there (.here _ _)))))))))) | exact .there (.there (.there (.there (.there (.there (.there (.there (.there (.there (.there (.here _ _))))))))))) | exact .there (.there (.there (.there (.there (.there (.there (.there (.there (.there (.there (.there (.here _ _)))))))))))) | exact .there (.there (.there (.there (.there (.there (.there (.there (.there (.there (.there (.there (.there (.here _ _)))))))))))))) rfl
    have p1 := hH.out.cell (b := p) (o := 1) (by first | exact .here _ _ | exact .there (.here _ _) | exact .there (.there (.here _ _)) | exact .there (.there (.there (.here _ _))) | exact .there (.there (.there (.there (.here _ _)))) | exact .there (.there (.there (.there (.there (.here _ _))))) | exact .there (.there (.there (.there (.there (.there (.here _ _)))))) | exact .there (.there (.there (.there (.there (.there (.there (.here _ _))))))) | exact .there (.there (.there (.there (.there (.there (.there (.there (.here _ _)))))))) | exact .there (.there (.there (.there (.there (.there (.there (.there (.there (.here _ _))))))))) | exact .there (.there (.there (.there (.there (.there (.there (.there (.there (.there (.here _ _)))))))))) | exact .there (.there (.there (.there (.there (.there (.there (.there (.there (.there (.there (.here _ _))))))))))) | exact .there (.there (.there (.there (.there (.there (.there (.there (.there (.there (.there (.there (.here _ _)))))))))))) | exact .there (.there (.there (.there (.there (.there (.there (.there (.there (.there (.there (.there (.there (.here _ _)))))))))))))) rfl
    have p6 := hH.out.cell (b := p) (o := 6) (by first | exact .here _ _ | exact .there (.here _ _) | exact .there (.there (.here _ _)) | exact .there (.there (.there (.here _ _))) | exact .there (.there (.there (.there (.here _ _)))) | exact .there (.there (.there (.there (.there (.here _ _))))) | exact .there (.there (.there (.there (.there (.there (.here _ _)))))) | exact .there (.there (.there (.there (.there (.there (.there (.here _ _))))))) | exact .there (.there (.there (.there (.there (.there (.there (.there (.here _ _)))))))) | exact .there (.there (.there (.there (.there (.there (.there (.there (.there (.here _ _))))))))) | exact .there (.there (.there (.there (.there (.there (.there (.there (.there (.there (.here _ _)))))))))) | exact .there (.there (.there (.there (.there (.there (.there (.there (.there (.there (.there (.here _ _))))))))))) | exact .there (.there (.there (.there (.there (.there (.there (.there (.there (.there (.there (.there (.here _ _)))))))))))) | exact .there (.there (.there (.there (.there (.there (.there (.there (.there (.there (.there (.there (.there (.here _ _)))))))))))))) rfl
    have hcc := hc'.out w2 hH.out.tail.tail.tail.tail
    have hpp := hpos.out trivial
    go_quiet ((first | (go_at_call 32; exact quiet_eq (hno.out _ _ ((hH.out.drewN _).re (.step (.there (.here _ _)) (.same _))))) | (go_at_call 35; exact quiet_eq (hri.out _ (hH.out.drewN _).tail.tail.tail.tail))))
    have H3 := Lib.hid (hH.out.drewN nq)
    generalize w2.drewN nq = w3 at *
    clear hH p0 p1 p6 hcc
    have z0 := H3.out.cell (o := 0) (.here _ _) rfl
    have z1 := H3.out.cell (o := 1) (.here _ _) rfl
    have z2 := H3.out.cell (o := 2) (.here _ _) rfl
    have fz := fun o => H3.out.free (.here _ _) o
    have h8 := Lib.hid (((H3.out.setCell 0 (.int .u32 0)).setCell 1 (.int .i64 0)).setCell 2 (.slice none 0 0))
    clear H3
    go_wp2_with fail
    generalize ((w3.setCell ⟨b1, 0, none⟩ (.int .u32 0)).setCell ⟨b1, 1, none⟩ (.int .i64 0)).setCell ⟨b1, 2, none⟩ (.slice none 0 0) = w5 at *
    have k0 := h8.out.cell (o := 0) (.here _ _) rfl
    have k1 := h8.out.cell (o := 1) (.here _ _) rfl
    have k2 := h8.out.cell (o := 2) (.here _ _) rfl
    refine bodyPost_ret (v := .tuple #[.agg #[.int .u32 0, .int .i64 0, .slice none 0 0], .bool false]) ?_ rfl ⟨rfl, ?_⟩
    · simp [results, Try.results12, go_sem, k0, k1, k2]
    · exact hback.out _ _ h8.out
end
end Go.Proofs.Ytaibdcglhibglaa
